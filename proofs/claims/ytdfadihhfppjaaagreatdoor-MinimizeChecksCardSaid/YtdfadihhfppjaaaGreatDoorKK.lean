/-
  THE CARD OF MinimizeChecks: the statement MinimizeChecks returns true for every input, and each argument reads as it did. Conditions: none.
-/
import Derived.Test.YtdfadihhfppjaaaGreatDoorCards
import Derived.Test.YtdfadihhfppjaaaGreatDoorBEAD
import Derived.Stop.LaidErr
namespace Go.Proofs.YtdfadihhfppjaaaGreatDoor.minimizeChecks
open Go.ChangeShapes Go.WideShapes Go.ChangeAt Go.RowKit
theorem own:ownKnob Tryz.prog.godebug=none:=by kernel_rfl
theorem table {W:World} (h:laidMetH Tryz.prog Rows.minimizeChecksRow.laid W):re W:=N7 h
set_option maxRecDepth 100000 in
theorem LR (H:Type) (enc:TypeId×Value -> H) (W:World) (base:Nat) (args:Array Value) (ds gs:List (DataW H)) (before:List MemPlace)
 (ei:∀(j:Nat) t v,Tryz.f5.params[j]?=some t -> args[j]?=some v -> Value.okWide Tryz.prog W .any base t v)
 (hW:DataW.Whole enc Tryz.prog Tryz.f5.params.toList Rows.minimizeChecksSpec.vars false W args.toList ds gs before)
 (hz:(DataW.weightsEach Tryz.prog (Tryz.f5.params.toList++[]) (ds++gs)).all (· <=reachBytes)=true) (hL:laidMetH Tryz.prog Rows.minimizeChecksRow.laid W):
 Calls Tryz.prog 5 args W λe W'=>∃ v,e= .returned v/\ Rows.minimizeChecksSpec.post enc Tryz.prog Tryz.f5 false true false false W args v W':=by
 have hW':=hW
 obtain⟨p,q,hA,hV,rfl,wG,d8⟩:=hW
 rw[Tryz.params5]at hA ei hz
 obtain⟨v0,Yl,d0,ds0,p0,q0,hargs,rfl,rfl,h0,r0⟩:=trodAll_cons hA
 obtain⟨v1,vs1,d1,ds1,p1,q1,rfl,rfl,rfl,h1,r1⟩:=trodAll_cons r0
 obtain⟨v2,vs2,d2,XB,p2,q2,rfl,rfl,rfl,h2,r2⟩:=trodAll_cons r1
 obtain⟨v3,vs3,d3,ds3,p3,q3,rfl,rfl,rfl,h3,r3⟩:=trodAll_cons r2
 obtain⟨v4,Ym,d4,XC,p4,q4,rfl,rfl,rfl,h4,r4⟩:=trodAll_cons r3
 obtain⟨rfl,rfl,rfl⟩:=trodAll_nil r4
 obtain rfl:args= #[v0,v1,v2,v3,v4]:=by cases args;simp_all
 obtain⟨rfl,rfl⟩:=trodVars_none hV
 have lC:pE 25 d0:=by
  intro x Z
  have h:=List.all_eq_true.1 hz x (by simp only[List.append_nil,DataW.weightsEach,List.mem_append];exact Or.inl Z)
  simpa using h
 obtain⟨d,m8,bw⟩:=RU (ei 0 25 v0 rfl rfl) h0 lC
 obtain⟨n1,rfl,_,_,XW⟩:=open_int Tryz.underlying3 (ei 1 3 v1 rfl rfl) h1
 have Aw:Rel All W (.int n1) (.int .i64 n1):=Rel.aH _
 have oa:pE 28 d2:=by
  intro x Z
  have h:=List.all_eq_true.1 hz x (by simp only[List.append_nil,DataW.weightsEach,List.mem_append];exact Or.inr (Or.inr (Or.inl Z)))
  simpa using h
 obtain⟨ss2,ff⟩:=GS (ei 2 28 v2 rfl rfl) h2 oa
 have P1:pE 28 d3:=by
  intro x Z
  have h:=List.all_eq_true.1 hz x (by simp only[List.append_nil,DataW.weightsEach,List.mem_append];exact Or.inr (Or.inr (Or.inr (Or.inl Z))))
  simpa using h
 obtain⟨VL,eh⟩:=GS (ei 3 28 v3 rfl rfl) h3 P1
 have P2:pE 48 d4:=by
  intro x Z
  have h:=List.all_eq_true.1 hz x (by simp only[List.append_nil,DataW.weightsEach,List.mem_append];exact Or.inr (Or.inr (Or.inr (Or.inr (Z)))))
  simpa using h
 obtain⟨LB,PA⟩:=RT (ei 4 48 v4 rfl rfl) h4 P2
 have hw:∀ f∈d.ab,f.wide.length*32<=140737488351232:=λf hf=>(bw.frame f hf).wide.1
 have Pm:=QA N6 d n1 ss2 VL LB hw N5 All W [v0,.int .i64 n1,v2,v3,v4] (λ_ _=>trivial) (table hL) (aq m8 (aq Aw (aq ff (aq eh (aq PA aN)))))
 refine Pm.mono λe W' ⟨v,he,qm,hk,_⟩=>?_
 obtain rfl:=qm.lit
 subst he
 refine⟨_,rfl,QB hW' rfl (by kernel_rfl) rfl ?_ hk⟩
 intro t ht
 rw[Tryz.params5]at ht
 have Az:t=25∨t=3∨t=28∨t=28∨t=48:=by simpa using ht
 rcases Az with rfl | rfl | rfl | rfl | rfl
 · exact⟨by kernel_rfl,of_decide_eq_true (by kernel_rfl)⟩
 · exact⟨by kernel_rfl,of_decide_eq_true (by kernel_rfl)⟩
 · exact⟨by kernel_rfl,of_decide_eq_true (by kernel_rfl)⟩
 · exact⟨by kernel_rfl,of_decide_eq_true (by kernel_rfl)⟩
 · exact⟨by kernel_rfl,of_decide_eq_true (by kernel_rfl)⟩
def TT (cs:Array Value):Obj -> Obj
 | .cells _ t frozen=>.cells cs t frozen
 | o=>o
def UP:Array Value:= #[.string ⟨#[]⟩,.bool false,.int .i64 0,.int .i64 0,.string ⟨#[36,99]⟩,.bool false,.int .i64 1,.int .i64 200,.string ⟨#[36,118]⟩,.bool false,.int .i64 1,.int .i64 200,.string ⟨#[36,102]⟩,.bool true,.int .i64 2,.int .i64 2,.string ⟨#[36,101]⟩,.bool true,.int .i64 1,.int .i64 200,.string ⟨#[36,100]⟩,.bool false,.int .i64 1,.int .i64 200,.string ⟨#[36,97]⟩,.bool true,.int .i64 1,.int .i64 200,.string ⟨#[36,112]⟩,.bool true,.int .i64 1,.int .i64 200,.string ⟨#[36,123]⟩,.bool false,.int .i64 0,.int .i64 0,.string ⟨#[36,125]⟩,.bool false,.int .i64 0,.int .i64 0]
noncomputable def Qx (os:Os):Array Obj:=(World.holding Tryz.prog os ⟨#[], #[],[]⟩).heap.modify 1 (TT UP)
noncomputable def AO (os:Os):World:= { World.holding Tryz.prog os ⟨#[], #[],[]⟩with heap:=Qx os }
theorem Qy (os:Os):laidMet Tryz.prog Rows.minimizeChecksRow.laid ((AO os).forCall (λ_ _=>0) ⟨#[], #[.agg #[.slice none 0 0,.slice none 0 0,.slice none 0 0],.int .i64 0,.agg #[.slice none 0 0],.agg #[.slice none 0 0],.slice none 0 0],[]⟩).memory:=
 laidMet_of_run' 80 (by kernel_rfl) (by kernel_rfl)
theorem reads (os:Os) {H:Type} (enc:TypeId×Value -> H):∃ places,DataW.whole enc Tryz.prog ((AO os).forCall (λ_ _=>0) ⟨#[], #[.agg #[.slice none 0 0,.slice none 0 0,.slice none 0 0],.int .i64 0,.agg #[.slice none 0 0],.agg #[.slice none 0 0],.slice none 0 0],[]⟩).memory Tryz.f5.params.toList Rows.minimizeChecksSpec.vars false (#[.agg #[.slice none 0 0,.slice none 0 0,.slice none 0 0],.int .i64 0,.agg #[.slice none 0 0],.agg #[.slice none 0 0],.slice none 0 0]:Array Value).toList 8=some ([.agg [.nil,.nil,.nil],.lit (.int .i64 0),.agg [.nil],.agg [.nil],.nil],[],places):=
 ⟨[],by kernel_rfl⟩
set_option maxRecDepth 100000 in
theorem QJ (os:Os) (started:os.Started) (H:Type) (enc:TypeId×Value -> H) (F:Stop.Interp):
 ReturnsInHanded {} Tryz.checked os 5 .any ((OpenSpec.ofChange Rows.minimizeChecksSpec).preRow enc Tryz.prog Tryz.f5 Rows.minimizeChecksRow.domain false Rows.minimizeChecksRow.laid) (((OpenSpec.ofChange Rows.minimizeChecksSpec).at F).post enc Tryz.prog Tryz.f5 false true false false):=by
 obtain⟨places,Z⟩:=reads os enc
 refine returnsInHanded_of_row (C:=Tryz.checked) (s:=OpenSpec.ofChange Rows.minimizeChecksSpec) own started (by kernel_rfl) Tryz.func5
  (witness_row_at (enc:=enc) (C:=Tryz.checked) false (AO os) #[.agg #[.slice none 0 0,.slice none 0 0,.slice none 0 0],.int .i64 0,.agg #[.slice none 0 0],.agg #[.slice none 0 0],.slice none 0 0] rfl (by kernel_rfl) (by kernel_rfl) (by kernel_rfl)
   (OpenSpec.preRow_of_cond 8 Z (by kernel_rfl) (λk hk=>by cases hk) (by kernel_rfl) (Qy os))) ?_
 intro W base args ds gs before ei hW _ _ hz hL _ _
 exact LR H enc W base args ds gs before ei hW hz hL
set_option maxHeartbeats 4000000 in
theorem facts:joinedFacts Tryz.pinned.checked.prog 5 Tryz.f5 (OpenSpec.ofChange Rows.minimizeChecksSpec).bare Rows.minimizeChecksRow=true:=by
 unfold joinedFacts
 simp only[Bool.and_eq_true]
 repeat' apply And.intro
 all_goals (as_aux_lemma=>kernel_rfl)
theorem Vc:Rows.MinimizeChecksSaid:=
 OpenClaim.holds_of_cond 5 Tryz.f5 rfl rfl rfl rfl rfl rfl rfl ⟨rfl,rfl,rfl,rfl,rfl⟩ rfl rfl rfl rfl rfl (by as_aux_lemma=>kernel_rfl) Tryz.func5 facts
  (of_decide_eq_true (by as_aux_lemma=>kernel_rfl)) (by unfold Func.isWrapper;first | (rw[if_pos (by decide+kernel)];kernel_rfl) | (rw[if_neg (by decide+kernel)];exact⟨rfl,rfl⟩))
  (λos started H enc _ F=>by rw[OpenClaim.pre_eq_preRow];exact QJ os started H enc F)
theorem plain (f:FuncId) (fn:Func) (hf:Tryz.pinned.checked.prog.funcNamed "apodixis/apodixislaw24.MinimizeChecks" =some f) (hfn:Tryz.pinned.checked.prog.funcs[f]?=some fn):
 false=Tryz.pinned.checked.prog.looks []/\ ∀(j:Nat) t,fn.params[j]?=some t -> Tryz.pinned.checked.prog.wantsStandIn t=false:=by
 obtain rfl:f=5:=Option.some.inj ((show Tryz.prog.funcNamed "apodixis/apodixislaw24.MinimizeChecks" =some 5 by kernel_rfl).symm.trans hf) |>.symm
 obtain rfl:fn=Tryz.f5:=(Option.some.inj (Tryz.func5.symm.trans hfn)).symm
 refine⟨by kernel_rfl,λj t ht=>?_⟩
 rw[Tryz.params5]at ht
 have Az:t=25∨t=3∨t=28∨t=28∨t=48:=by simpa using Array.mem_of_getElem? ht
 rcases Az with rfl | rfl | rfl | rfl | rfl
 · exact(show Tryz.prog.wantsStandIn 25=false by kernel_rfl)
 · exact(show Tryz.prog.wantsStandIn 3=false by kernel_rfl)
 · exact(show Tryz.prog.wantsStandIn 28=false by kernel_rfl)
 · exact(show Tryz.prog.wantsStandIn 28=false by kernel_rfl)
 · exact(show Tryz.prog.wantsStandIn 48=false by kernel_rfl)
theorem card:Rows.MinimizeChecksCardSaid:=
 Claim7.holds_tied_plain_at .later [] _ _ _ _ Vc (λ_ h=>by cases h) (by as_aux_lemma=>kernel_rfl) (λ_ h=>by cases h) minimizeChecks_row_tie rfl ⟨rfl,rfl⟩ (by as_aux_lemma=>kernel_rfl) rfl plain (by as_aux_lemma=>kernel_rfl)
end Go.Proofs.YtdfadihhfppjaaaGreatDoor.minimizeChecks
