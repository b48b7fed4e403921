/-
  Part of the proof that MinimizeChecks returns true. Conditions: none.
-/
import Derived.Test.YtdfadihhfppjaaaGreatDoorBER
import Derived.ArgAppend
namespace Go.Proofs.YtdfadihhfppjaaaGreatDoor
open Go.RowKit
abbrev OB.mH (M:Nat) (L:List (BA×Hy)):OB:=OB.map aB (λz':Hy=>AV.agg (aP z')) M L
abbrev OB.mT (M:Nat) (L:List (BA×BA)):OB:=OB.map aB (λz':BA=>AV.str z') M L
abbrev OB.mI (M:Nat) (L:List (BA×Int)):OB:=OB.map aB (λz':Int=>AV.int z') M L
abbrev dq (l:List Nat):List CD:=l.map λM=>.lit (.map (some M))
section
variable {n:Rn} {N:Nat} {P:Program} {J X:WP} {K S:Nat->Prop} {O:List OB} {w0:World} {env env':List (Nat×AV)} {Q:Exit->Act->WP} {c y z:Code} {l:List Oper} {id:Nat} {draw:Bool}

theorem qs (T:gz P) (V:aR X) (ks:List Nat) (bv:List AV) (env':List (Nat×AV)) (hq:Tr n P (St K S w0 N env' X) y Q) (he:jG T env l bv [] 0 l=jO bv:=by exact rfl) (hf:ks.map (ku false env l bv)=env'.map some:=by exact rfl) (hk:kC l N=true:=by exact rfl) (hg:jV l (gA bv) l=true:=by exact rfl) (ob:jD (ew n P K S w0 env X l (gA bv)) [] 0 l:=by exact trivial):
 Tr n P (St K S w0 N env X) (.seq (.region id l.toArray draw) y) Q:=af (rg T V ks bv [] env' hf hk he hg ob hq)
theorem qp (T:gz P) (V:aR X) (ks:List Nat) (bv:List AV) (env':List (Nat×AV)) (hq:∀ a w,St K S w0 N env' X a w->Q .normal a w) (he:jG T env l bv [] 0 l=jO bv:=by exact rfl) (hf:ks.map (ku false env l bv)=env'.map some:=by exact rfl) (hk:kC l N=true:=by exact rfl) (hg:jV l (gA bv) l=true:=by exact rfl) (ob:jD (ew n P K S w0 env X l (gA bv)) [] 0 l:=by exact trivial):
 Tr n P (St K S w0 N env X) (.region id l.toArray draw) Q:=rg T V ks bv [] env' hf hk he hg ob hq
theorem aj (T:gz P) (V:aR J) (ks:List Nat) (bv:List AV) (env':List (Nat×AV)) (hq:Tr n P (So J S w0 N O env') y Q) (he:jG T env l bv [] 0 l=jO bv:=by exact rfl) (hf:ks.map (ku false env l bv)=env'.map some:=by exact rfl) (hk:kC l N=true:=by exact rfl) (hg:jV l (gA bv) l=true:=by exact rfl) (ob:jD (ew n P All (SO S O) w0 env (XO J S w0.heap.size O) l (gA bv)) [] 0 l:=by exact trivial):
 Tr n P (So J S w0 N O env) (.seq (.region id l.toArray draw) y) Q:=af (xK T V ks bv [] env' hf hk he hg ob hq)
theorem HO (T:gz P) (V:aR J) (ks:List Nat) (bv:List AV) (env':List (Nat×AV)) (hq:∀ a w,So J S w0 N O env' a w->Q .normal a w) (he:jG T env l bv [] 0 l=jO bv:=by exact rfl) (hf:ks.map (ku false env l bv)=env'.map some:=by exact rfl) (hk:kC l N=true:=by exact rfl) (hg:jV l (gA bv) l=true:=by exact rfl) (ob:jD (ew n P All (SO S O) w0 env (XO J S w0.heap.size O) l (gA bv)) [] 0 l:=by exact trivial):
 Tr n P (So J S w0 N O env) (.region id l.toArray draw) Q:=xK T V ks bv [] env' hf hk he hg ob hq

theorem aJ (T:gz P) (V:aR X) (ks:List Nat) (bv:List AV) (hs:List Nat) (env':List (Nat×AV)) (he:jG T env l bv hs 0 l=jO bv) (ob:jD (ew n P K S w0 env X l (gA bv)) hs 0 l) (hq:Tr n P (St K S w0 N env' X) y Q) (hf:ks.map (ku false env l bv)=env'.map some:=by exact rfl) (hk:kC l N=true:=by exact rfl) (hg:jV l (gA bv) l=true:=by exact rfl):
 Tr n P (St K S w0 N env X) (.seq (.region id l.toArray draw) y) Q:=af (rg T V ks bv hs env' hf hk he hg ob hq)
theorem dK (T:gz P) (V:aR X) (ks:List Nat) (bv:List AV) (hs:List Nat) (env':List (Nat×AV)) (he:jG T env l bv hs 0 l=jO bv) (ob:jD (ew n P K S w0 env X l (gA bv)) hs 0 l) (hq:∀ a w,St K S w0 N env' X a w->Q .normal a w) (hf:ks.map (ku false env l bv)=env'.map some:=by exact rfl) (hk:kC l N=true:=by exact rfl) (hg:jV l (gA bv) l=true:=by exact rfl):
 Tr n P (St K S w0 N env X) (.region id l.toArray draw) Q:=rg T V ks bv hs env' hf hk he hg ob hq
theorem au (T:gz P) (V:aR J) (ks:List Nat) (bv:List AV) (hs:List Nat) (env':List (Nat×AV)) (he:jG T env l bv hs 0 l=jO bv) (ob:jD (ew n P All (SO S O) w0 env (XO J S w0.heap.size O) l (gA bv)) hs 0 l) (hq:Tr n P (So J S w0 N O env') y Q) (hf:ks.map (ku false env l bv)=env'.map some:=by exact rfl) (hk:kC l N=true:=by exact rfl) (hg:jV l (gA bv) l=true:=by exact rfl):
 Tr n P (So J S w0 N O env) (.seq (.region id l.toArray draw) y) Q:=af (xK T V ks bv hs env' hf hk he hg ob hq)
theorem aT (T:gz P) (V:aR J) (ks:List Nat) (bv:List AV) (hs:List Nat) (env':List (Nat×AV)) (he:jG T env l bv hs 0 l=jO bv) (ob:jD (ew n P All (SO S O) w0 env (XO J S w0.heap.size O) l (gA bv)) hs 0 l) (hq:∀ a w,So J S w0 N O env' a w->Q .normal a w) (hf:ks.map (ku false env l bv)=env'.map some:=by exact rfl) (hk:kC l N=true:=by exact rfl) (hg:jV l (gA bv) l=true:=by exact rfl):
 Tr n P (So J S w0 N O env) (.region id l.toArray draw) Q:=xK T V ks bv hs env' hf hk he hg ob hq
theorem l8 (T:gz P) (V:aR J) (ks:List Nat) (bv:List AV) (hs:List Nat) (env':List (Nat×AV)) (he:jG T env l bv hs 0 l=jO bv) (ob:jD (ew n P All S w0 env (XO J S w0.heap.size O) l (gA bv)) hs 0 l) (hq:Tr n P (So J S w0 N O env') y Q) (hf:ks.map (ku true env l bv)=env'.map some:=by exact rfl) (hk:kC l N=true:=by exact rfl) (hg:jV l (gA bv) l=true:=by exact rfl):
 Tr n P (So J S w0 N O env) (.seq (.region id l.toArray draw) y) Q:=af (UM T V ks bv hs env' hf hk he hg ob hq)

theorem cj {d:Operand} {s:Nat} (m:Nat) {g:Bool} (ht:g=true->Tr n P (St K S w0 N env X) y Q) (hf:g=false->Tr n P (St K S w0 N env X) z Q) (he:env[m]?=some (s,.bool g):=by exact rfl) (hc:d= .tmp s:=by exact rfl):Tr n P (St K S w0 N env X) (.cond d y z) Q:=I7 g he hc ht hf
theorem cE {d:Operand} {s:Nat} (m:Nat) {g:Bool} {v:Code} (ht:g=true->Tr n P (St K S w0 N env X) y (Exit.then (λa w=>v.wpIn n.F n.d P Q a w) Q)) (hf:g=false->Tr n P (St K S w0 N env X) z (Exit.then (λa w=>v.wpIn n.F n.d P Q a w) Q)) (he:env[m]?=some (s,.bool g):=by exact rfl) (hc:d= .tmp s:=by exact rfl):Tr n P (St K S w0 N env X) (.seq (.cond d y z) v) Q:=af (I7 g he hc ht hf)

theorem ln {α:Type} {f:α->List CD} {xs:List α} {s:Nat} (m:Nat) (h:xs.length<=9223372036854775807->Tr n P (St K S w0 N env X) c Q) (he:env[m]?=some (s,.rd (.sl (xs.map f))):=by exact rfl):Tr n P (St K S w0 N env X) c Q:=Cd (λ_ _ ha=>AR ha m he) h
theorem ub {x:BA} {s:Nat} (m:Nat) (h:x.size<=9223372036854775807->Tr n P (St K S w0 N env X) c Q) (he:env[m]?=some (s,.str x):=by exact rfl):Tr n P (St K S w0 N env X) c Q:=Cd (λ_ _ ha=>V0 ha m he) h

theorem lp {ι:Type} (F:ι->Prop) (E:ι->List (Nat×AV)) (μ:ι->Nat) (ks:List Nat) (eK:List (Nat×AV)) (i0:ι) (h0:F i0)
 (h:∀ i,F i->Tr n P (St K S w0 N (eK++E i) X) c (Exit.then (λa w=>∃ j,(F j/\St K S w0 N (eK++E j) X a w)/\μ j<μ i) Q)) (he:ks.map (env[·]?)=(eK++E i0).map some:=by exact rfl):Tr n P (St K S w0 N env X) (.loop c) Q:=
 I8 (λi a w=>F i/\St K S w0 N (eK++E i) X a w) μ (λ_ _ ha=>⟨i0,h0,lz ks he ha⟩) λi=>I6 (h i)
theorem lpo {ι:Type} (F:ι->Prop) (O':ι->List OB) (E:ι->List (Nat×AV)) (μ:ι->Nat) (ks:List Nat) (eK:List (Nat×AV)) (i0:ι) (h0:F i0)
 (h:∀ i,F i->Tr n P (So J S w0 N (O' i) (eK++E i)) c (Exit.then (λa w=>∃ j,(F j/\So J S w0 N (O' j) (eK++E j) a w)/\μ j<μ i) Q)) (hO:O=O' i0:=by exact rfl) (he:ks.map (env[·]?)=(eK++E i0).map some:=by exact rfl):Tr n P (So J S w0 N O env) (.loop c) Q:=
 I8 (λi a w=>F i/\So J S w0 N (O' i) (eK++E i) a w) μ (λ_ _ ha=>⟨i0,h0,lz ks he (hO▸ha)⟩) λi=>I6 (h i)
theorem dM {ι:Type} {F:ι->Prop} {E:ι->List (Nat×AV)} {μ:ι->Nat} {m':Nat} {eK:List (Nat×AV)} (j:ι) (ks:List Nat) (hF:F j) (hm:μ j<m':=by(try dsimp only);first | omega | (simp;omega)) (he:ks.map (env[·]?)=(eK++E j).map some:=by exact rfl):∀ a w,St K S w0 N env X a w->∃ j,(F j/\St K S w0 N (eK++E j) X a w)/\μ j<m':=
 λ_ _ ha=>⟨j,⟨hF,lz ks he ha⟩,hm⟩
theorem br {ι:Type} {F:ι->Prop} {O':ι->List OB} {E:ι->List (Nat×AV)} {μ:ι->Nat} {m':Nat} {eK:List (Nat×AV)} (j:ι) (ks:List Nat) (hF:F j) (hm:μ j<m':=by(try dsimp only);first | omega | (simp;omega)) (hO:O=O' j:=by exact rfl) (he:ks.map (env[·]?)=(eK++E j).map some:=by exact rfl):∀ a w,So J S w0 N O env a w->∃ j,(F j/\So J S w0 N (O' j) (eK++E j) a w)/\μ j<m':=
 λ_ _ ha=>⟨j,⟨hF,lz ks he (hO▸ha)⟩,hm⟩

theorem FW {ι:Type} (F:ι->Prop) (O':ι->List OB) (E:ι->List (Nat×AV)) (h1:Tr n P (So J S w0 N O env) c (Exit.then (λa w=>∃ j,F j/\So J S w0 N (O' j) (E j) a w) Q)) (h2:∀ i,F i->Tr n P (So J S w0 N (O' i) (E i)) y Q):Tr n P (So J S w0 N O env) c (Exit.then (λa w=>y.wpIn n.F n.d P Q a w) Q):=
 λa w ha=>wpIn_mono (h1 a w ha) λe a' w' he=>by
  cases e with
  | normal=>obtain⟨j,hF,hs⟩:=he;exact h2 j hF a' w' hs
  | _=>exact he
theorem qq {ι:Type} {F:ι->Prop} {O':ι->List OB} {E:ι->List (Nat×AV)} (j:ι) (ks:List Nat) (hF:F j) (hO:O=O' j:=by exact rfl) (he:ks.map (env[·]?)=(E j).map some:=by exact rfl):∀ a w,So J S w0 N O env a w->∃ j,F j/\So J S w0 N (O' j) (E j) a w:=λ_ _ ha=>⟨j,hF,lz ks he (hO▸ha)⟩

theorem UT {fn:Func} {t m:Nat} {av res:AV} (hr:fn.results= #[.tmp t]) (he:env[m]?=some (t,av)) (hE:av=res):∀ a w,St All S w0 N env J a w->bodyPost P fn (λe w'=>∃ v,e= .returned v/\Rel S w' res v/\Keeps All w0 w'/\J w') .ret a w:=λ_ _ h=>F2 hr h he hE
theorem Iw {fn:Func} {t m:Nat} {av res:AV} (hr:fn.results= #[.tmp t]) (he:env[m]?=some (t,av)) (hE:av=res):∀ a w,So J S w0 N O env a w->bodyPost P fn (λe w'=>∃ v,e= .returned v/\Rel S w' res v/\Keeps All w0 w'/\J w') .ret a w:=λ_ _ h=>F2 hr (dw h) he hE
theorem aU {fn:Func} {t:Nat} {av res:AV} (m:Nat) (hq:∀ a w,bodyPost P fn (λe w'=>∃ v,e= .returned v/\Rel S w' res v/\Keeps All w0 w'/\J w') .ret a w->Q .ret a w:=by exact λ_ _ h=>h) (hr:fn.results= #[.tmp t]:=by exact rfl) (he:env[m]?=some (t,av):=by exact rfl) (hE:av=res):Tr n P (St All S w0 N env J) .ret Q:=aX λa w h=>hq a w (UT hr he hE a w h)
theorem bH {fn:Func} {t:Nat} {av res:AV} (m:Nat) (hq:∀ a w,bodyPost P fn (λe w'=>∃ v,e= .returned v/\Rel S w' res v/\Keeps All w0 w'/\J w') .ret a w->Q .ret a w:=by exact λ_ _ h=>h) (hr:fn.results= #[.tmp t]:=by exact rfl) (he:env[m]?=some (t,av):=by exact rfl) (hE:av=res):Tr n P (So J S w0 N O env) .ret Q:=aX λa w h=>hq a w (Iw hr he hE a w h)
theorem eB {a b:Bool} (h:a=b):AV.bool a=AV.bool b:=congrArg _ h
theorem eI {a b:Int} (h:a=b):AV.int a=AV.int b:=congrArg _ h
theorem eS {a b:BA} (h:a=b):AV.str a=AV.str b:=congrArg _ h

theorem aL {ops:List Oper} (h:∀ a w,St K S w0 N env X a w->wpListIn n.F n.d P ops.toArray (Exit.then (λa w=>y.wpIn n.F n.d P Q a w) Q) ops a w):Tr n P (St K S w0 N env X) (.seq (.region id ops.toArray false) y) Q:=af (cC h)
end

def v8 {P:Program} (T:gz P) (N:Nat):List Oper->List (Nat×AV)->Option (List (Nat×AV))
 | [],env=>some env
 | o::r,env=>match o.guard with
  | some _=>none
  | none=>match o.dst with
   | none=>none
   | some d=>match ev T (λ_ x=>xF env x) (λ_=>0) (λ_=>false) o.op with
    | some av=>cond (Nat.blt d N) (v8 T N r ((d,av)::dP d env)) none
    | none=>none
section
variable {n:Rn} {N:Nat} {P:Program} {J X:WP} {K S:Nat->Prop} {O:List OB} {w0:World} {env env':List (Nat×AV)} {Q:Exit->Act->WP}
theorem IJ {ops:Array Oper} {rest:List Oper} (T:gz P):∀(pre:List Oper) (env:List (Nat×AV)),v8 T N pre env=some env'->(∀ a w,St K S w0 N env' X a w->wpListIn n.F n.d P ops Q rest a w)->∀ a w,St K S w0 N env X a w->wpListIn n.F n.d P ops Q (pre++rest) a w
 | [],env,he,next=>by cases he;exact next
 | o::r,env,he,next=>by
  rw[v8]at he
  cases hg:o.guard with
  | some _=>rw[hg]at he;cases he
  | none=>
   rw[hg]at he
   cases hd:o.dst with
   | none=>rw[hd]at he;cases he
   | some d=>
    rw[hd]at he
    simp only at he
    split at he
    · rename_i av cR
      cases hb:Nat.blt d N with
      | false=>rw[hb]at he;cases he
      | true=>
       rw[hb]at he
       exact sv T cR hg hd hb (IJ T r _ he next)
    · cases he
theorem ao {ops:Array Oper} {l:List Oper} (k:Nat) (T:gz P) (he:v8 T N (l.take k) env=some env') (next:∀ a w,St K S w0 N env' X a w->wpListIn n.F n.d P ops Q (l.drop k) a w):∀ a w,St K S w0 N env X a w->wpListIn n.F n.d P ops Q l a w:=by
 have:=IJ (ops:=ops) (Q:=Q) T (l.take k) env he next
 rwa [List.take_append_drop]at this
theorem aA {ops:Array Oper} (ks:List Nat) (env':List (Nat×AV)) (hk:ks.map (env[·]?)=env'.map some) (h:∀ a w,St K S w0 N env' X a w->Q .normal a w):∀ a w,St K S w0 N env X a w->wpListIn n.F n.d P ops Q [] a w:=VE (kw (lz ks hk) h)
end

section
variable {n:Rn} {N:Nat} {P:Program} {J X:WP} {K S:Nat->Prop} {O:List OB} {w0:World} {env:List (Nat×AV)} {l:List Oper} {am:Nat->AV} {i:Nat} {o:Oper} {t e u:TypeId} {x y:Operand}
theorem aC {α:Type} {f:α->List CD} {xs:List α} (h1:P.underlying t=some (.slice e)) (hi:l[i]?=some o:=by exact rfl) (hop:o.op= .call { callee:=.builtin .len,args:= #[x],argTypes:= #[t] }:=by exact rfl) (hr:rdv env l am [] i (cp o) x=some (.rd (.sl (xs.map f))):=by exact rfl) (cR:am i= .int (xs.length:Int):=by exact rfl):ew n P K S w0 env X l am i o:=OI h1 hi hop hr cR
theorem pc {s:BA} (h1:P.underlying t=some .string) (hi:l[i]?=some o:=by exact rfl) (hop:o.op= .call { callee:=.builtin .len,args:= #[x],argTypes:= #[t] }:=by exact rfl) (hr:rdv env l am [] i (cp o) x=some (.str s):=by exact rfl) (cR:am i= .int (s.size:Int):=by exact rfl):ew n P K S w0 env X l am i o:=λa w _ Z hl hc=>by
 rw[cR];exact Uf h1 hop (kr hl hi hc hr) Z
theorem bq {α:Type} [Inhabited α] {f:α->List CD} {xs:List α} {k c:Nat} (h1:dA P t e c) (hi:l[i]?=some o:=by exact rfl) (hop:o.op= .indexAddr t x y:=by exact rfl) (hr:rdv env l am [] i (cp o) x=some (.rd (.sl (xs.map f))):=by exact rfl) (ff:rdv env l am [] i (cp o) y=some (.int (k:Int)):=by exact rfl) (dl:(f (G xs k)).length=c:=by exact rfl) (cR:am i= .ptr (f (G xs k)):=by exact rfl) (hk:k<xs.length:=by first | omega | (simp;omega) | grind[aE]):ew n P K S w0 env X l am i o:=hIx h1 hk hi hop hr ff dl cR
theorem wT {α:Type} [Inhabited α] {f:α->List CD} {xs:List α} {z:Int} {c:Nat} (h1:dA P t e c) (hi:l[i]?=some o:=by exact rfl) (hop:o.op= .indexAddr t x y:=by exact rfl) (hr:rdv env l am [] i (cp o) x=some (.rd (.sl (xs.map f))):=by exact rfl) (ff:rdv env l am [] i (cp o) y=some (.int z):=by exact rfl) (dl:(f (G xs z.toNat)).length=c:=by exact rfl) (cR:am i= .ptr (f (G xs z.toNat)):=by exact rfl) (h0:0<=z:=by first | omega | (simp;omega) | grind[aE]) (hk:z<xs.length:=by first | omega | (simp;omega) | grind[aE]):ew n P K S w0 env X l am i o:=OG h1 h0 hk hi hop hr ff dl cR
theorem cT {α:Type} [Inhabited α] {f:α->List CD} {xs:List α} {k c:Nat} (h1:dA P t e c) (hi:l[i]?=some o:=by exact rfl) (hop:o.op= .indexAddr t x y:=by exact rfl) (hr:rdv env l am [] i (cp o) x=some (.rd (.sl (xs.map f))):=by exact rfl) (ff:rdv env l am [] i (cp o) y=some (.int (k:Int)):=by exact rfl) (dl:(f (G xs k)).length=c:=by exact rfl) (cR:am i= .ptr (f (G xs k)):=by exact rfl) (hk:cnd l am i=true->k<xs.length):ew n P K S w0 env X l am i o:=λa w _ Z hl hc=>by
 rw[cR];exact cb h1 hop (kr hl hi hc hr) (kr hl hi hc ff) bK (cl (hk hc)) dl Z
theorem aM {z1 z2:Int} (hi:l[i]?=some o:=by exact rfl) (hop:o.op= .binOp .add t x y u:=by exact rfl) (hr:rdv env l am [] i (cp o) x=some (.int z1):=by exact rfl) (ff:rdv env l am [] i (cp o) y=some (.int z2):=by exact rfl) (cR:am i= .int (z1+z2):=by exact rfl) (h0: -9223372036854775808<=z1+z2/\z1+z2<=9223372036854775807:=by first | omega | (simp;omega) | grind[aE]):ew n P K S w0 env X l am i o:=Oz h0 hi hop hr ff cR
theorem md {z1 z2:Int} (hi:l[i]?=some o:=by exact rfl) (hop:o.op= .binOp .sub t x y u:=by exact rfl) (hr:rdv env l am [] i (cp o) x=some (.int z1):=by exact rfl) (ff:rdv env l am [] i (cp o) y=some (.int z2):=by exact rfl) (cR:am i= .int (z1-z2):=by exact rfl) (h0: -9223372036854775808<=z1-z2/\z1-z2<=9223372036854775807:=by first | omega | (simp;omega) | grind[aE]):ew n P K S w0 env X l am i o:=OK h0 hi hop hr ff cR
theorem dh {f:FuncId} {args:List Operand} {ts:Array TypeId} {bv:List AV} {av:AV} (hS:∀ b,w0.heap.size<=b->S b) (V:aR J) (hF:Fn P J f bv av) (h1:dy P f) (hi:l[i]?=some o:=by exact rfl) (hop:o.op= .call { callee:=.value (.func f),args:=args.toArray,argTypes:=ts }:=by exact rfl)
 (hr:args.map (rdv env l am [] i (cp o))=bv.map some:=by exact rfl) (cR:am i=av:=by exact rfl):ew n P All S w0 env J l am i o:=hFn hS V hF h1 hi hop hr cR
theorem cY {cs:List CD} (hS:∀ b,w0.heap.size<=b->S b) (V:aR J) (hi:l[i]?=some o:=by exact rfl) (hop:o.op= .box t x:=by exact rfl) (hr:rdv env l am [] i (cp o) x=some (.agg cs):=by exact rfl) (cR:am i= .ptr cs:=by exact rfl):
 ew n P All (SO S O) w0 env (XO J S w0.heap.size O) l am i o:=λa w hk Z hl hc=>by
 rw[cR];exact fk hop (kr hl hi hc hr) (aK hS _ hk Z _ aV) (jo V Z)
theorem d9 {cs:List CD} (hS:∀ b,w0.heap.size<=b->S b) (V:aR J) (hi:l[i]?=some o:=by exact rfl) (hop:o.op= .box t x:=by exact rfl) (hr:rdv env l am [] i (cp o) x=some (.agg cs):=by exact rfl) (cR:am i= .ptr cs:=by exact rfl):
 ew n P All S w0 env J l am i o:=λa w hk Z hl hc=>by
 rw[cR];exact fk hop (kr hl hi hc hr) (hS _ hk.size) (js V Z)
theorem bJ {f:FuncId} {args:List Operand} {ts:Array TypeId} {bv:List AV} {av:AV} (hS:∀ b,w0.heap.size<=b->S b) (V:aR J) (hF:Fn P J f bv av) (h1:dy P f) (hi:l[i]?=some o:=by exact rfl) (hop:o.op= .call { callee:=.value (.func f),args:=args.toArray,argTypes:=ts }:=by exact rfl)
 (hr:args.map (rdv env l am [] i (cp o))=bv.map some:=by exact rfl) (cR:am i=av:=by exact rfl):ew n P All (SO S O) w0 env (XO J S w0.heap.size O) l am i o:=OC hS V hF h1 hi hop hr cR
theorem FP {f:FuncId} {args:List Operand} {ts:Array TypeId} {bv:List AV} {av:AV} {lo:Nat} (hS:∀ b,w0.heap.size<=b->S b) (V:aR J) (hF:Fn P J f bv av) (h1:dy P f) (hi:l[i]?=some o:=by exact rfl) (hop:o.op= .call { callee:=.value (.func f),args:=args.toArray,argTypes:=ts }:=by exact rfl)
 (hr:args.map (rdv env l am [] i (cp o))=bv.map some:=by exact rfl) (cR:am i=av:=by exact rfl):ew n P All S w0 env (XO J S lo O) l am i o:=OE hS V hF h1 hi hop hr cR
end
end Go.Proofs.YtdfadihhfppjaaaGreatDoor
