/-
  Part of the proof that MinimizeApplies returns true. Conditions: none.
-/
import Derived.Test.YtdfadihhfppjaaaGreatDoorBDR
import Derived.ArgAppend
namespace Go.Proofs.YtdfadihhfppjaaaGreatDoor
open Go.RowKit
abbrev OB.mH (M:Nat) (L:List (BA×Hy)):OB:=OB.map aB (λz':Hy=>AV.agg (aN z')) M L
abbrev OB.mT (M:Nat) (L:List (BA×BA)):OB:=OB.map aB (λz':BA=>AV.str z') M L
abbrev OB.mI (M:Nat) (L:List (BA×Int)):OB:=OB.map aB (λz':Int=>AV.int z') M L
abbrev di (l:List Nat):List CD:=l.map λM=>.lit (.map (some M))
section
variable {n:Rn} {N:Nat} {P:Program} {J X:WP} {K S:Nat->Prop} {O:List OB} {w0:World} {env env':List (Nat×AV)} {Q:Exit->Act->WP} {c y z:Code} {l:List Oper} {id:Nat} {draw:Bool}

theorem qs (T:go P) (V:aS X) (ks:List Nat) (bu:List AV) (env':List (Nat×AV)) (hq:Tr n P (St K S w0 N env' X) y Q) (he:jw T env l bu [] 0 l=jG bu:=by exact rfl) (hf:ks.map (kl false env l bu)=env'.map some:=by exact rfl) (hk:kr l N=true:=by exact rfl) (hg:jP l (gA bu) l=true:=by exact rfl) (ob:jt (er n P K S w0 env X l (gA bu)) [] 0 l:=by exact trivial):
 Tr n P (St K S w0 N env X) (.seq (.region id l.toArray draw) y) Q:=af (rg T V ks bu [] env' hf hk he hg ob hq)
theorem qp (T:go P) (V:aS X) (ks:List Nat) (bu:List AV) (env':List (Nat×AV)) (hq:∀ a w,St K S w0 N env' X a w->Q .normal a w) (he:jw T env l bu [] 0 l=jG bu:=by exact rfl) (hf:ks.map (kl false env l bu)=env'.map some:=by exact rfl) (hk:kr l N=true:=by exact rfl) (hg:jP l (gA bu) l=true:=by exact rfl) (ob:jt (er n P K S w0 env X l (gA bu)) [] 0 l:=by exact trivial):
 Tr n P (St K S w0 N env X) (.region id l.toArray draw) Q:=rg T V ks bu [] env' hf hk he hg ob hq
theorem ak (T:go P) (V:aS J) (ks:List Nat) (bu:List AV) (env':List (Nat×AV)) (hq:Tr n P (So J S w0 N O env') y Q) (he:jw T env l bu [] 0 l=jG bu:=by exact rfl) (hf:ks.map (kl false env l bu)=env'.map some:=by exact rfl) (hk:kr l N=true:=by exact rfl) (hg:jP l (gA bu) l=true:=by exact rfl) (ob:jt (er n P All (SO S O) w0 env (XO J S w0.heap.size O) l (gA bu)) [] 0 l:=by exact trivial):
 Tr n P (So J S w0 N O env) (.seq (.region id l.toArray draw) y) Q:=af (xm T V ks bu [] env' hf hk he hg ob hq)
theorem Hl (T:go P) (V:aS J) (ks:List Nat) (bu:List AV) (env':List (Nat×AV)) (hq:∀ a w,So J S w0 N O env' a w->Q .normal a w) (he:jw T env l bu [] 0 l=jG bu:=by exact rfl) (hf:ks.map (kl false env l bu)=env'.map some:=by exact rfl) (hk:kr l N=true:=by exact rfl) (hg:jP l (gA bu) l=true:=by exact rfl) (ob:jt (er n P All (SO S O) w0 env (XO J S w0.heap.size O) l (gA bu)) [] 0 l:=by exact trivial):
 Tr n P (So J S w0 N O env) (.region id l.toArray draw) Q:=xm T V ks bu [] env' hf hk he hg ob hq

theorem aJ (T:go P) (V:aS X) (ks:List Nat) (bu:List AV) (hs:List Nat) (env':List (Nat×AV)) (he:jw T env l bu hs 0 l=jG bu) (ob:jt (er n P K S w0 env X l (gA bu)) hs 0 l) (hq:Tr n P (St K S w0 N env' X) y Q) (hf:ks.map (kl false env l bu)=env'.map some:=by exact rfl) (hk:kr l N=true:=by exact rfl) (hg:jP l (gA bu) l=true:=by exact rfl):
 Tr n P (St K S w0 N env X) (.seq (.region id l.toArray draw) y) Q:=af (rg T V ks bu hs env' hf hk he hg ob hq)
theorem dI (T:go P) (V:aS X) (ks:List Nat) (bu:List AV) (hs:List Nat) (env':List (Nat×AV)) (he:jw T env l bu hs 0 l=jG bu) (ob:jt (er n P K S w0 env X l (gA bu)) hs 0 l) (hq:∀ a w,St K S w0 N env' X a w->Q .normal a w) (hf:ks.map (kl false env l bu)=env'.map some:=by exact rfl) (hk:kr l N=true:=by exact rfl) (hg:jP l (gA bu) l=true:=by exact rfl):
 Tr n P (St K S w0 N env X) (.region id l.toArray draw) Q:=rg T V ks bu hs env' hf hk he hg ob hq
theorem au (T:go P) (V:aS J) (ks:List Nat) (bu:List AV) (hs:List Nat) (env':List (Nat×AV)) (he:jw T env l bu hs 0 l=jG bu) (ob:jt (er n P All (SO S O) w0 env (XO J S w0.heap.size O) l (gA bu)) hs 0 l) (hq:Tr n P (So J S w0 N O env') y Q) (hf:ks.map (kl false env l bu)=env'.map some:=by exact rfl) (hk:kr l N=true:=by exact rfl) (hg:jP l (gA bu) l=true:=by exact rfl):
 Tr n P (So J S w0 N O env) (.seq (.region id l.toArray draw) y) Q:=af (xm T V ks bu hs env' hf hk he hg ob hq)
theorem aT (T:go P) (V:aS J) (ks:List Nat) (bu:List AV) (hs:List Nat) (env':List (Nat×AV)) (he:jw T env l bu hs 0 l=jG bu) (ob:jt (er n P All (SO S O) w0 env (XO J S w0.heap.size O) l (gA bu)) hs 0 l) (hq:∀ a w,So J S w0 N O env' a w->Q .normal a w) (hf:ks.map (kl false env l bu)=env'.map some:=by exact rfl) (hk:kr l N=true:=by exact rfl) (hg:jP l (gA bu) l=true:=by exact rfl):
 Tr n P (So J S w0 N O env) (.region id l.toArray draw) Q:=xm T V ks bu hs env' hf hk he hg ob hq
theorem lZ (T:go P) (V:aS J) (ks:List Nat) (bu:List AV) (hs:List Nat) (env':List (Nat×AV)) (he:jw T env l bu hs 0 l=jG bu) (ob:jt (er n P All S w0 env (XO J S w0.heap.size O) l (gA bu)) hs 0 l) (hq:Tr n P (So J S w0 N O env') y Q) (hf:ks.map (kl true env l bu)=env'.map some:=by exact rfl) (hk:kr l N=true:=by exact rfl) (hg:jP l (gA bu) l=true:=by exact rfl):
 Tr n P (So J S w0 N O env) (.seq (.region id l.toArray draw) y) Q:=af (Ub T V ks bu hs env' hf hk he hg ob hq)

theorem cj {d:Operand} {s:Nat} (m:Nat) {g:Bool} (ht:g=true->Tr n P (St K S w0 N env X) y Q) (hf:g=false->Tr n P (St K S w0 N env X) z Q) (he:env[m]?=some (s,.bool g):=by exact rfl) (hc:d= .tmp s:=by exact rfl):Tr n P (St K S w0 N env X) (.cond d y z) Q:=ID g he hc ht hf
theorem cI {d:Operand} {s:Nat} (m:Nat) {g:Bool} {v:Code} (ht:g=true->Tr n P (St K S w0 N env X) y (Exit.then (λa w=>v.wpIn n.F n.d P Q a w) Q)) (hf:g=false->Tr n P (St K S w0 N env X) z (Exit.then (λa w=>v.wpIn n.F n.d P Q a w) Q)) (he:env[m]?=some (s,.bool g):=by exact rfl) (hc:d= .tmp s:=by exact rfl):Tr n P (St K S w0 N env X) (.seq (.cond d y z) v) Q:=af (ID g he hc ht hf)

theorem ln {α:Type} {f:α->List CD} {xs:List α} {s:Nat} (m:Nat) (h:xs.length<=9223372036854775807->Tr n P (St K S w0 N env X) c Q) (he:env[m]?=some (s,.rd (.sl (xs.map f))):=by exact rfl):Tr n P (St K S w0 N env X) c Q:=BX (λ_ _ ha=>AA ha m he) h
theorem tT {x:BA} {s:Nat} (m:Nat) (h:x.size<=9223372036854775807->Tr n P (St K S w0 N env X) c Q) (he:env[m]?=some (s,.str x):=by exact rfl):Tr n P (St K S w0 N env X) c Q:=BX (λ_ _ ha=>Vl ha m he) h

theorem lp {ι:Type} (F:ι->Prop) (E:ι->List (Nat×AV)) (μ:ι->Nat) (ks:List Nat) (eK:List (Nat×AV)) (i0:ι) (h0:F i0)
 (h:∀ i,F i->Tr n P (St K S w0 N (eK++E i) X) c (Exit.then (λa w=>∃ j,(F j/\St K S w0 N (eK++E j) X a w)/\μ j<μ i) Q)) (he:ks.map (env[·]?)=(eK++E i0).map some:=by exact rfl):Tr n P (St K S w0 N env X) (.loop c) Q:=
 IE (λi a w=>F i/\St K S w0 N (eK++E i) X a w) μ (λ_ _ ha=>⟨i0,h0,lz ks he ha⟩) λi=>IC (h i)
theorem lpo {ι:Type} (F:ι->Prop) (O':ι->List OB) (E:ι->List (Nat×AV)) (μ:ι->Nat) (ks:List Nat) (eK:List (Nat×AV)) (i0:ι) (h0:F i0)
 (h:∀ i,F i->Tr n P (So J S w0 N (O' i) (eK++E i)) c (Exit.then (λa w=>∃ j,(F j/\So J S w0 N (O' j) (eK++E j) a w)/\μ j<μ i) Q)) (hO:O=O' i0:=by exact rfl) (he:ks.map (env[·]?)=(eK++E i0).map some:=by exact rfl):Tr n P (So J S w0 N O env) (.loop c) Q:=
 IE (λi a w=>F i/\So J S w0 N (O' i) (eK++E i) a w) μ (λ_ _ ha=>⟨i0,h0,lz ks he (hO▸ha)⟩) λi=>IC (h i)
theorem dO {ι:Type} {F:ι->Prop} {E:ι->List (Nat×AV)} {μ:ι->Nat} {m':Nat} {eK:List (Nat×AV)} (j:ι) (ks:List Nat) (hF:F j) (hm:μ j<m':=by(try dsimp only);first | omega | (simp;omega)) (he:ks.map (env[·]?)=(eK++E j).map some:=by exact rfl):∀ a w,St K S w0 N env X a w->∃ j,(F j/\St K S w0 N (eK++E j) X a w)/\μ j<m':=
 λ_ _ ha=>⟨j,⟨hF,lz ks he ha⟩,hm⟩
theorem bq {ι:Type} {F:ι->Prop} {O':ι->List OB} {E:ι->List (Nat×AV)} {μ:ι->Nat} {m':Nat} {eK:List (Nat×AV)} (j:ι) (ks:List Nat) (hF:F j) (hm:μ j<m':=by(try dsimp only);first | omega | (simp;omega)) (hO:O=O' j:=by exact rfl) (he:ks.map (env[·]?)=(eK++E j).map some:=by exact rfl):∀ a w,So J S w0 N O env a w->∃ j,(F j/\So J S w0 N (O' j) (eK++E j) a w)/\μ j<m':=
 λ_ _ ha=>⟨j,⟨hF,lz ks he (hO▸ha)⟩,hm⟩

theorem FB {ι:Type} (F:ι->Prop) (O':ι->List OB) (E:ι->List (Nat×AV)) (h1:Tr n P (So J S w0 N O env) c (Exit.then (λa w=>∃ j,F j/\So J S w0 N (O' j) (E j) a w) Q)) (h2:∀ i,F i->Tr n P (So J S w0 N (O' i) (E i)) y Q):Tr n P (So J S w0 N O env) c (Exit.then (λa w=>y.wpIn n.F n.d P Q a w) Q):=
 λa w ha=>wpIn_mono (h1 a w ha) λe a' w' he=>by
  cases e with
  | normal=>obtain⟨j,hF,hs⟩:=he;exact h2 j hF a' w' hs
  | _=>exact he
theorem qb {ι:Type} {F:ι->Prop} {O':ι->List OB} {E:ι->List (Nat×AV)} (j:ι) (ks:List Nat) (hF:F j) (hO:O=O' j:=by exact rfl) (he:ks.map (env[·]?)=(E j).map some:=by exact rfl):∀ a w,So J S w0 N O env a w->∃ j,F j/\So J S w0 N (O' j) (E j) a w:=λ_ _ ha=>⟨j,hF,lz ks he (hO▸ha)⟩

theorem Ui {fn:Func} {t m:Nat} {av res:AV} (hr:fn.results= #[.tmp t]) (he:env[m]?=some (t,av)) (hE:av=res):∀ a w,St All S w0 N env J a w->bodyPost P fn (λe w'=>∃ v,e= .returned v/\Rel S w' res v/\Keeps All w0 w'/\J w') .ret a w:=λ_ _ h=>FH hr h he hE
theorem H4 {fn:Func} {t m:Nat} {av res:AV} (hr:fn.results= #[.tmp t]) (he:env[m]?=some (t,av)) (hE:av=res):∀ a w,So J S w0 N O env a w->bodyPost P fn (λe w'=>∃ v,e= .returned v/\Rel S w' res v/\Keeps All w0 w'/\J w') .ret a w:=λ_ _ h=>FH hr (d9 h) he hE
theorem aU {fn:Func} {t:Nat} {av res:AV} (m:Nat) (hq:∀ a w,bodyPost P fn (λe w'=>∃ v,e= .returned v/\Rel S w' res v/\Keeps All w0 w'/\J w') .ret a w->Q .ret a w:=by exact λ_ _ h=>h) (hr:fn.results= #[.tmp t]:=by exact rfl) (he:env[m]?=some (t,av):=by exact rfl) (hE:av=res):Tr n P (St All S w0 N env J) .ret Q:=aZ λa w h=>hq a w (Ui hr he hE a w h)
theorem bL {fn:Func} {t:Nat} {av res:AV} (m:Nat) (hq:∀ a w,bodyPost P fn (λe w'=>∃ v,e= .returned v/\Rel S w' res v/\Keeps All w0 w'/\J w') .ret a w->Q .ret a w:=by exact λ_ _ h=>h) (hr:fn.results= #[.tmp t]:=by exact rfl) (he:env[m]?=some (t,av):=by exact rfl) (hE:av=res):Tr n P (So J S w0 N O env) .ret Q:=aZ λa w h=>hq a w (H4 hr he hE a w h)
theorem eB {a b:Bool} (h:a=b):AV.bool a=AV.bool b:=congrArg _ h
theorem eI {a b:Int} (h:a=b):AV.int a=AV.int b:=congrArg _ h
theorem eS {a b:BA} (h:a=b):AV.str a=AV.str b:=congrArg _ h

theorem aL {ops:List Oper} (h:∀ a w,St K S w0 N env X a w->wpListIn n.F n.d P ops.toArray (Exit.then (λa w=>y.wpIn n.F n.d P Q a w) Q) ops a w):Tr n P (St K S w0 N env X) (.seq (.region id ops.toArray false) y) Q:=af (cG h)
end

def vL {P:Program} (T:go P) (N:Nat):List Oper->List (Nat×AV)->Option (List (Nat×AV))
 | [],env=>some env
 | o::r,env=>match o.guard with
  | some _=>none
  | none=>match o.dst with
   | none=>none
   | some d=>match ev T (λ_ x=>xh env x) (λ_=>0) (λ_=>false) o.op with
    | some av=>cond (Nat.blt d N) (vL T N r ((d,av)::dK d env)) none
    | none=>none
section
variable {n:Rn} {N:Nat} {P:Program} {J X:WP} {K S:Nat->Prop} {O:List OB} {w0:World} {env env':List (Nat×AV)} {Q:Exit->Act->WP}
theorem Ii {ops:Array Oper} {rest:List Oper} (T:go P):∀(pre:List Oper) (env:List (Nat×AV)),vL T N pre env=some env'->(∀ a w,St K S w0 N env' X a w->wpListIn n.F n.d P ops Q rest a w)->∀ a w,St K S w0 N env X a w->wpListIn n.F n.d P ops Q (pre++rest) a w
 | [],env,he,next=>by cases he;exact next
 | o::r,env,he,next=>by
  rw[vL]at he
  cases hg:o.guard with
  | some _=>rw[hg]at he;cases he
  | none=>
   rw[hg]at he
   cases hd:o.dst with
   | none=>rw[hd]at he;cases he
   | some d=>
    rw[hd]at he
    simp only at he
    split at he
    · rename_i av cL
      cases hb:Nat.blt d N with
      | false=>rw[hb]at he;cases he
      | true=>
       rw[hb]at he
       exact sv T cL hg hd hb (Ii T r _ he next)
    · cases he
theorem ao {ops:Array Oper} {l:List Oper} (k:Nat) (T:go P) (he:vL T N (l.take k) env=some env') (next:∀ a w,St K S w0 N env' X a w->wpListIn n.F n.d P ops Q (l.drop k) a w):∀ a w,St K S w0 N env X a w->wpListIn n.F n.d P ops Q l a w:=by
 have:=Ii (ops:=ops) (Q:=Q) T (l.take k) env he next
 rwa [List.take_append_drop]at this
theorem aA {ops:Array Oper} (ks:List Nat) (env':List (Nat×AV)) (hk:ks.map (env[·]?)=env'.map some) (h:∀ a w,St K S w0 N env' X a w->Q .normal a w):∀ a w,St K S w0 N env X a w->wpListIn n.F n.d P ops Q [] a w:=UU (kw (lz ks hk) h)
end

section
variable {n:Rn} {N:Nat} {P:Program} {J X:WP} {K S:Nat->Prop} {O:List OB} {w0:World} {env:List (Nat×AV)} {l:List Oper} {am:Nat->AV} {i:Nat} {o:Oper} {t e u:TypeId} {x y:Operand}
theorem aD {α:Type} {f:α->List CD} {xs:List α} (h1:P.underlying t=some (.slice e)) (hi:l[i]?=some o:=by exact rfl) (hop:o.op= .call { callee:=.builtin .len,args:= #[x],argTypes:= #[t] }:=by exact rfl) (hr:rdv env l am [] i (cm o) x=some (.rd (.sl (xs.map f))):=by exact rfl) (cL:am i= .int (xs.length:Int):=by exact rfl):er n P K S w0 env X l am i o:=N7 h1 hi hop hr cL
theorem oP {s:BA} (h1:P.underlying t=some .string) (hi:l[i]?=some o:=by exact rfl) (hop:o.op= .call { callee:=.builtin .len,args:= #[x],argTypes:= #[t] }:=by exact rfl) (hr:rdv env l am [] i (cm o) x=some (.str s):=by exact rfl) (cL:am i= .int (s.size:Int):=by exact rfl):er n P K S w0 env X l am i o:=λa w _ Z hl hc=>by
 rw[cL];exact TD h1 hop (ki hl hi hc hr) Z
theorem bn {α:Type} [Inhabited α] {f:α->List CD} {xs:List α} {k c:Nat} (h1:dx P t e c) (hi:l[i]?=some o:=by exact rfl) (hop:o.op= .indexAddr t x y:=by exact rfl) (hr:rdv env l am [] i (cm o) x=some (.rd (.sl (xs.map f))):=by exact rfl) (fb:rdv env l am [] i (cm o) y=some (.int (k:Int)):=by exact rfl) (cY:(f (G xs k)).length=c:=by exact rfl) (cL:am i= .ptr (f (G xs k)):=by exact rfl) (hk:k<xs.length:=by first | omega | (simp;omega) | grind[aC]):er n P K S w0 env X l am i o:=hIx h1 hk hi hop hr fb cY cL
theorem wD {α:Type} [Inhabited α] {f:α->List CD} {xs:List α} {z:Int} {c:Nat} (h1:dx P t e c) (hi:l[i]?=some o:=by exact rfl) (hop:o.op= .indexAddr t x y:=by exact rfl) (hr:rdv env l am [] i (cm o) x=some (.rd (.sl (xs.map f))):=by exact rfl) (fb:rdv env l am [] i (cm o) y=some (.int z):=by exact rfl) (cY:(f (G xs z.toNat)).length=c:=by exact rfl) (cL:am i= .ptr (f (G xs z.toNat)):=by exact rfl) (h0:0<=z:=by first | omega | (simp;omega) | grind[aC]) (hk:z<xs.length:=by first | omega | (simp;omega) | grind[aC]):er n P K S w0 env X l am i o:=N5 h1 h0 hk hi hop hr fb cY cL
theorem cN {α:Type} [Inhabited α] {f:α->List CD} {xs:List α} {k c:Nat} (h1:dx P t e c) (hi:l[i]?=some o:=by exact rfl) (hop:o.op= .indexAddr t x y:=by exact rfl) (hr:rdv env l am [] i (cm o) x=some (.rd (.sl (xs.map f))):=by exact rfl) (fb:rdv env l am [] i (cm o) y=some (.int (k:Int)):=by exact rfl) (cY:(f (G xs k)).length=c:=by exact rfl) (cL:am i= .ptr (f (G xs k)):=by exact rfl) (hk:cnd l am i=true->k<xs.length):er n P K S w0 env X l am i o:=λa w _ Z hl hc=>by
 rw[cL];exact cb h1 hop (ki hl hi hc hr) (ki hl hi hc fb) bM (cq (hk hc)) cY Z
theorem aM {z1 z2:Int} (hi:l[i]?=some o:=by exact rfl) (hop:o.op= .binOp .add t x y u:=by exact rfl) (hr:rdv env l am [] i (cm o) x=some (.int z1):=by exact rfl) (fb:rdv env l am [] i (cm o) y=some (.int z2):=by exact rfl) (cL:am i= .int (z1+z2):=by exact rfl) (h0: -9223372036854775808<=z1+z2/\z1+z2<=9223372036854775807:=by first | omega | (simp;omega) | grind[aC]):er n P K S w0 env X l am i o:=N0 h0 hi hop hr fb cL
theorem l2 {z1 z2:Int} (hi:l[i]?=some o:=by exact rfl) (hop:o.op= .binOp .sub t x y u:=by exact rfl) (hr:rdv env l am [] i (cm o) x=some (.int z1):=by exact rfl) (fb:rdv env l am [] i (cm o) y=some (.int z2):=by exact rfl) (cL:am i= .int (z1-z2):=by exact rfl) (h0: -9223372036854775808<=z1-z2/\z1-z2<=9223372036854775807:=by first | omega | (simp;omega) | grind[aC]):er n P K S w0 env X l am i o:=N9 h0 hi hop hr fb cL
theorem dh {f:FuncId} {args:List Operand} {ts:Array TypeId} {bu:List AV} {av:AV} (hS:∀ b,w0.heap.size<=b->S b) (V:aS J) (hF:Fn P J f bu av) (h1:dL P f) (hi:l[i]?=some o:=by exact rfl) (hop:o.op= .call { callee:=.value (.func f),args:=args.toArray,argTypes:=ts }:=by exact rfl)
 (hr:args.map (rdv env l am [] i (cm o))=bu.map some:=by exact rfl) (cL:am i=av:=by exact rfl):er n P All S w0 env J l am i o:=hFn hS V hF h1 hi hop hr cL
theorem cW {cs:List CD} (hS:∀ b,w0.heap.size<=b->S b) (V:aS J) (hi:l[i]?=some o:=by exact rfl) (hop:o.op= .box t x:=by exact rfl) (hr:rdv env l am [] i (cm o) x=some (.agg cs):=by exact rfl) (cL:am i= .ptr cs:=by exact rfl):
 er n P All (SO S O) w0 env (XO J S w0.heap.size O) l am i o:=λa w hk Z hl hc=>by
 rw[cL];exact gc hop (ki hl hi hc hr) (aK hS _ hk Z _ aV) (jo V Z)
theorem ej {cs:List CD} (hS:∀ b,w0.heap.size<=b->S b) (V:aS J) (hi:l[i]?=some o:=by exact rfl) (hop:o.op= .box t x:=by exact rfl) (hr:rdv env l am [] i (cm o) x=some (.agg cs):=by exact rfl) (cL:am i= .ptr cs:=by exact rfl):
 er n P All S w0 env J l am i o:=λa w hk Z hl hc=>by
 rw[cL];exact gc hop (ki hl hi hc hr) (hS _ hk.size) (js V Z)
theorem bN {f:FuncId} {args:List Operand} {ts:Array TypeId} {bu:List AV} {av:AV} (hS:∀ b,w0.heap.size<=b->S b) (V:aS J) (hF:Fn P J f bu av) (h1:dL P f) (hi:l[i]?=some o:=by exact rfl) (hop:o.op= .call { callee:=.value (.func f),args:=args.toArray,argTypes:=ts }:=by exact rfl)
 (hr:args.map (rdv env l am [] i (cm o))=bu.map some:=by exact rfl) (cL:am i=av:=by exact rfl):er n P All (SO S O) w0 env (XO J S w0.heap.size O) l am i o:=N2 hS V hF h1 hi hop hr cL
theorem Fu {f:FuncId} {args:List Operand} {ts:Array TypeId} {bu:List AV} {av:AV} {lo:Nat} (hS:∀ b,w0.heap.size<=b->S b) (V:aS J) (hF:Fn P J f bu av) (h1:dL P f) (hi:l[i]?=some o:=by exact rfl) (hop:o.op= .call { callee:=.value (.func f),args:=args.toArray,argTypes:=ts }:=by exact rfl)
 (hr:args.map (rdv env l am [] i (cm o))=bu.map some:=by exact rfl) (cL:am i=av:=by exact rfl):er n P All S w0 env (XO J S lo O) l am i o:=N4 hS V hF h1 hi hop hr cL
end
end Go.Proofs.YtdfadihhfppjaaaGreatDoor
