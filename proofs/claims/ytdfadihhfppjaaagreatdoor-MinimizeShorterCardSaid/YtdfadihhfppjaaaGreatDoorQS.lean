/-
  THE ENGINE: the printed walks' words, short: what 'rfl' settles is not typed.
-/
import Derived.Test.YtdfadihhfppjaaaGreatDoorQR
import Derived.ArgAppend
namespace Go.Proofs.YtdfadihhfppjaaaGreatDoor
open Go.RowKit
abbrev OB.mH (M:Nat) (L:List (BA×Hy)):OB:=OB.map keyS (fun z':Hy=>AV.agg (hyC z')) M L
abbrev OB.mT (M:Nat) (L:List (BA×BA)):OB:=OB.map keyS (fun z':BA=>AV.str z') M L
abbrev OB.mI (M:Nat) (L:List (BA×Int)):OB:=OB.map keyS (fun z':Int=>AV.int z') M L
abbrev mpC (l:List Nat):List CD:=l.map fun M=>.lit (.map (some M))
section
variable {n:Rn} {N:Nat} {P:Program} {J X:WP} {K S:Nat→Prop} {O:List OB} {w0:World} {env env':List (Nat×AV)} {Q:Exit→Act→WP} {c y z:Code} {l:List Oper} {id:Nat} {draw:Bool}

theorem qs (T:Tbl P) (hJ:Stab X) (ks:List Nat) (avl:List AV) (env':List (Nat×AV)) (hq:Tr n P (St K S w0 N env' X) y Q) (he:evL T env l avl [] 0 l=tgL avl:=by exact rfl) (hf:ks.map (ZjQ false env l avl)=env'.map some:=by exact rfl) (hk:Zmb l N=true:=by exact rfl) (hg:Zjx l (gA avl) l=true:=by exact rfl) (ob:Zju (ObX n P K S w0 env X l (gA avl)) [] 0 l:=by exact trivial):
 Tr n P (St K S w0 N env X) (.seq (.region id l.toArray draw) y) Q:=Zf (rg T hJ ks avl [] env' hf hk he hg ob hq)
theorem qp (T:Tbl P) (hJ:Stab X) (ks:List Nat) (avl:List AV) (env':List (Nat×AV)) (hq:∀ a w,St K S w0 N env' X a w→Q .normal a w) (he:evL T env l avl [] 0 l=tgL avl:=by exact rfl) (hf:ks.map (ZjQ false env l avl)=env'.map some:=by exact rfl) (hk:Zmb l N=true:=by exact rfl) (hg:Zjx l (gA avl) l=true:=by exact rfl) (ob:Zju (ObX n P K S w0 env X l (gA avl)) [] 0 l:=by exact trivial):
 Tr n P (St K S w0 N env X) (.region id l.toArray draw) Q:=rg T hJ ks avl [] env' hf hk he hg ob hq
theorem qso (T:Tbl P) (hJ:Stab J) (ks:List Nat) (avl:List AV) (env':List (Nat×AV)) (hq:Tr n P (So J S w0 N O env') y Q) (he:evL T env l avl [] 0 l=tgL avl:=by exact rfl) (hf:ks.map (ZjQ false env l avl)=env'.map some:=by exact rfl) (hk:Zmb l N=true:=by exact rfl) (hg:Zjx l (gA avl) l=true:=by exact rfl) (ob:Zju (ObX n P All (SO S O) w0 env (XO J S w0.heap.size O) l (gA avl)) [] 0 l:=by exact trivial):
 Tr n P (So J S w0 N O env) (.seq (.region id l.toArray draw) y) Q:=Zf (rgo T hJ ks avl [] env' hf hk he hg ob hq)
theorem qpo (T:Tbl P) (hJ:Stab J) (ks:List Nat) (avl:List AV) (env':List (Nat×AV)) (hq:∀ a w,So J S w0 N O env' a w→Q .normal a w) (he:evL T env l avl [] 0 l=tgL avl:=by exact rfl) (hf:ks.map (ZjQ false env l avl)=env'.map some:=by exact rfl) (hk:Zmb l N=true:=by exact rfl) (hg:Zjx l (gA avl) l=true:=by exact rfl) (ob:Zju (ObX n P All (SO S O) w0 env (XO J S w0.heap.size O) l (gA avl)) [] 0 l:=by exact trivial):
 Tr n P (So J S w0 N O env) (.region id l.toArray draw) Q:=rgo T hJ ks avl [] env' hf hk he hg ob hq

theorem hqs (T:Tbl P) (hJ:Stab X) (ks:List Nat) (avl:List AV) (hs:List Nat) (env':List (Nat×AV)) (he:evL T env l avl hs 0 l=tgL avl) (ob:Zju (ObX n P K S w0 env X l (gA avl)) hs 0 l) (hq:Tr n P (St K S w0 N env' X) y Q) (hf:ks.map (ZjQ false env l avl)=env'.map some:=by exact rfl) (hk:Zmb l N=true:=by exact rfl) (hg:Zjx l (gA avl) l=true:=by exact rfl):
 Tr n P (St K S w0 N env X) (.seq (.region id l.toArray draw) y) Q:=Zf (rg T hJ ks avl hs env' hf hk he hg ob hq)
theorem hqp (T:Tbl P) (hJ:Stab X) (ks:List Nat) (avl:List AV) (hs:List Nat) (env':List (Nat×AV)) (he:evL T env l avl hs 0 l=tgL avl) (ob:Zju (ObX n P K S w0 env X l (gA avl)) hs 0 l) (hq:∀ a w,St K S w0 N env' X a w→Q .normal a w) (hf:ks.map (ZjQ false env l avl)=env'.map some:=by exact rfl) (hk:Zmb l N=true:=by exact rfl) (hg:Zjx l (gA avl) l=true:=by exact rfl):
 Tr n P (St K S w0 N env X) (.region id l.toArray draw) Q:=rg T hJ ks avl hs env' hf hk he hg ob hq
theorem ZF (T:Tbl P) (hJ:Stab J) (ks:List Nat) (avl:List AV) (hs:List Nat) (env':List (Nat×AV)) (he:evL T env l avl hs 0 l=tgL avl) (ob:Zju (ObX n P All (SO S O) w0 env (XO J S w0.heap.size O) l (gA avl)) hs 0 l) (hq:Tr n P (So J S w0 N O env') y Q) (hf:ks.map (ZjQ false env l avl)=env'.map some:=by exact rfl) (hk:Zmb l N=true:=by exact rfl) (hg:Zjx l (gA avl) l=true:=by exact rfl):
 Tr n P (So J S w0 N O env) (.seq (.region id l.toArray draw) y) Q:=Zf (rgo T hJ ks avl hs env' hf hk he hg ob hq)
theorem YU (T:Tbl P) (hJ:Stab J) (ks:List Nat) (avl:List AV) (hs:List Nat) (env':List (Nat×AV)) (he:evL T env l avl hs 0 l=tgL avl) (ob:Zju (ObX n P All (SO S O) w0 env (XO J S w0.heap.size O) l (gA avl)) hs 0 l) (hq:∀ a w,So J S w0 N O env' a w→Q .normal a w) (hf:ks.map (ZjQ false env l avl)=env'.map some:=by exact rfl) (hk:Zmb l N=true:=by exact rfl) (hg:Zjx l (gA avl) l=true:=by exact rfl):
 Tr n P (So J S w0 N O env) (.region id l.toArray draw) Q:=rgo T hJ ks avl hs env' hf hk he hg ob hq
theorem ZsP (T:Tbl P) (hJ:Stab J) (ks:List Nat) (avl:List AV) (hs:List Nat) (env':List (Nat×AV)) (he:evL T env l avl hs 0 l=tgL avl) (ob:Zju (ObX n P All S w0 env (XO J S w0.heap.size O) l (gA avl)) hs 0 l) (hq:Tr n P (So J S w0 N O env') y Q) (hf:ks.map (ZjQ true env l avl)=env'.map some:=by exact rfl) (hk:Zmb l N=true:=by exact rfl) (hg:Zjx l (gA avl) l=true:=by exact rfl):
 Tr n P (So J S w0 N O env) (.seq (.region id l.toArray draw) y) Q:=Zf (rgr T hJ ks avl hs env' hf hk he hg ob hq)

theorem cj {d:Operand} {s:Nat} (m:Nat) {g:Bool} (ht:g=true→Tr n P (St K S w0 N env X) y Q) (hf:g=false→Tr n P (St K S w0 N env X) z Q) (he:env[m]?=some (s,.bool g):=by exact rfl) (hc:d= .tmp s:=by exact rfl):Tr n P (St K S w0 N env X) (.cond d y z) Q:=Zoj g he hc ht hf
theorem cjS {d:Operand} {s:Nat} (m:Nat) {g:Bool} {v:Code} (ht:g=true→Tr n P (St K S w0 N env X) y (Exit.then (fun a w=>v.wpIn n.F n.d P Q a w) Q)) (hf:g=false→Tr n P (St K S w0 N env X) z (Exit.then (fun a w=>v.wpIn n.F n.d P Q a w) Q)) (he:env[m]?=some (s,.bool g):=by exact rfl) (hc:d= .tmp s:=by exact rfl):Tr n P (St K S w0 N env X) (.seq (.cond d y z) v) Q:=Zf (Zoj g he hc ht hf)

theorem ln {α:Type} {f:α→List CD} {xs:List α} {s:Nat} (m:Nat) (h:xs.length≤9223372036854775807→Tr n P (St K S w0 N env X) c Q) (he:env[m]?=some (s,.rd (.sl (xs.map f))):=by exact rfl):Tr n P (St K S w0 N env X) c Q:=ZjG (fun _ _ ha=>ZpJ ha m he) h
theorem lnS {x:BA} {s:Nat} (m:Nat) (h:x.size≤9223372036854775807→Tr n P (St K S w0 N env X) c Q) (he:env[m]?=some (s,.str x):=by exact rfl):Tr n P (St K S w0 N env X) c Q:=ZjG (fun _ _ ha=>str_le ha m he) h

theorem lp {ι:Type} (F:ι→Prop) (E:ι→List (Nat×AV)) (μ:ι→Nat) (ks:List Nat) (eK:List (Nat×AV)) (i0:ι) (h0:F i0)
 (h:∀ i,F i→Tr n P (St K S w0 N (eK++E i) X) c (Exit.then (fun a w=>∃ j,(F j∧St K S w0 N (eK++E j) X a w)∧μ j<μ i) Q)) (he:ks.map (env[·]?)=(eK++E i0).map some:=by exact rfl):Tr n P (St K S w0 N env X) (.loop c) Q:=
 Zoi (fun i a w=>F i∧St K S w0 N (eK++E i) X a w) μ (fun _ _ ha=>⟨i0,h0,lz ks he ha⟩) fun i=>Zuw (h i)
theorem lpo {ι:Type} (F:ι→Prop) (O':ι→List OB) (E:ι→List (Nat×AV)) (μ:ι→Nat) (ks:List Nat) (eK:List (Nat×AV)) (i0:ι) (h0:F i0)
 (h:∀ i,F i→Tr n P (So J S w0 N (O' i) (eK++E i)) c (Exit.then (fun a w=>∃ j,(F j∧So J S w0 N (O' j) (eK++E j) a w)∧μ j<μ i) Q)) (hO:O=O' i0:=by exact rfl) (he:ks.map (env[·]?)=(eK++E i0).map some:=by exact rfl):Tr n P (So J S w0 N O env) (.loop c) Q:=
 Zoi (fun i a w=>F i∧So J S w0 N (O' i) (eK++E i) a w) μ (fun _ _ ha=>⟨i0,h0,lz ks he (hO▸ha)⟩) fun i=>Zuw (h i)
theorem lpE {ι:Type} {F:ι→Prop} {E:ι→List (Nat×AV)} {μ:ι→Nat} {m':Nat} {eK:List (Nat×AV)} (j:ι) (ks:List Nat) (hF:F j) (hm:μ j<m':=by(try dsimp only);first | omega | (simp;omega)) (he:ks.map (env[·]?)=(eK++E j).map some:=by exact rfl):∀ a w,St K S w0 N env X a w→∃ j,(F j∧St K S w0 N (eK++E j) X a w)∧μ j<m':=
 fun _ _ ha=>⟨j,⟨hF,lz ks he ha⟩,hm⟩
theorem Xk {ι:Type} {F:ι→Prop} {O':ι→List OB} {E:ι→List (Nat×AV)} {μ:ι→Nat} {m':Nat} {eK:List (Nat×AV)} (j:ι) (ks:List Nat) (hF:F j) (hm:μ j<m':=by(try dsimp only);first | omega | (simp;omega)) (hO:O=O' j:=by exact rfl) (he:ks.map (env[·]?)=(eK++E j).map some:=by exact rfl):∀ a w,So J S w0 N O env a w→∃ j,(F j∧So J S w0 N (O' j) (eK++E j) a w)∧μ j<m':=
 fun _ _ ha=>⟨j,⟨hF,lz ks he (hO▸ha)⟩,hm⟩

theorem jnoK {ι:Type} (F:ι→Prop) (O':ι→List OB) (E:ι→List (Nat×AV)) (h1:Tr n P (So J S w0 N O env) c (Exit.then (fun a w=>∃ j,F j∧So J S w0 N (O' j) (E j) a w) Q)) (h2:∀ i,F i→Tr n P (So J S w0 N (O' i) (E i)) y Q):Tr n P (So J S w0 N O env) c (Exit.then (fun a w=>y.wpIn n.F n.d P Q a w) Q):=
 fun a w ha=>wpIn_mono (h1 a w ha) fun e a' w' he=>by
  cases e with
  | normal=>obtain⟨j,hF,hs⟩:=he;exact h2 j hF a' w' hs
  | _=>exact he
theorem ZwJ {ι:Type} {F:ι→Prop} {O':ι→List OB} {E:ι→List (Nat×AV)} (j:ι) (ks:List Nat) (hF:F j) (hO:O=O' j:=by exact rfl) (he:ks.map (env[·]?)=(E j).map some:=by exact rfl):∀ a w,So J S w0 N O env a w→∃ j,F j∧So J S w0 N (O' j) (E j) a w:=fun _ _ ha=>⟨j,hF,lz ks he (hO▸ha)⟩

theorem rtn {fn:Func} {t m:Nat} {av res:AV} (hr:fn.results= #[.tmp t]) (he:env[m]?=some (t,av)) (hE:av=res):∀ a w,St All S w0 N env J a w→bodyPost P fn (fun e w'=>∃ v,e= .returned v∧Rel S w' res v∧Keeps All w0 w'∧J w') .ret a w:=fun _ _ h=>ZpL hr h he hE
theorem rtno {fn:Func} {t m:Nat} {av res:AV} (hr:fn.results= #[.tmp t]) (he:env[m]?=some (t,av)) (hE:av=res):∀ a w,So J S w0 N O env a w→bodyPost P fn (fun e w'=>∃ v,e= .returned v∧Rel S w' res v∧Keeps All w0 w'∧J w') .ret a w:=fun _ _ h=>ZpL hr (ZY h) he hE
theorem tRn {fn:Func} {t:Nat} {av res:AV} (m:Nat) (hq:∀ a w,bodyPost P fn (fun e w'=>∃ v,e= .returned v∧Rel S w' res v∧Keeps All w0 w'∧J w') .ret a w→Q .ret a w:=by exact fun _ _ h=>h) (hr:fn.results= #[.tmp t]:=by exact rfl) (he:env[m]?=some (t,av):=by exact rfl) (hE:av=res):Tr n P (St All S w0 N env J) .ret Q:=Zs fun a w h=>hq a w (rtn hr he hE a w h)
theorem tRo {fn:Func} {t:Nat} {av res:AV} (m:Nat) (hq:∀ a w,bodyPost P fn (fun e w'=>∃ v,e= .returned v∧Rel S w' res v∧Keeps All w0 w'∧J w') .ret a w→Q .ret a w:=by exact fun _ _ h=>h) (hr:fn.results= #[.tmp t]:=by exact rfl) (he:env[m]?=some (t,av):=by exact rfl) (hE:av=res):Tr n P (So J S w0 N O env) .ret Q:=Zs fun a w h=>hq a w (rtno hr he hE a w h)
theorem eB {a b:Bool} (h:a=b):AV.bool a=AV.bool b:=congrArg _ h
theorem eI {a b:Int} (h:a=b):AV.int a=AV.int b:=congrArg _ h
theorem eS {a b:BA} (h:a=b):AV.str a=AV.str b:=congrArg _ h

theorem tsq {ops:List Oper} (h:∀ a w,St K S w0 N env X a w→wpListIn n.F n.d P ops.toArray (Exit.then (fun a w=>y.wpIn n.F n.d P Q a w) Q) ops a w):Tr n P (St K S w0 N env X) (.seq (.region id ops.toArray false) y) Q:=Zf (ZO h)
end

def evS {P:Program} (T:Tbl P) (N:Nat):List Oper→List (Nat×AV)→Option (List (Nat×AV))
 | [],env=>some env
 | o::r,env=>match o.guard with
  | some _=>none
  | none=>match o.dst with
   | none=>none
   | some d=>match ev T (fun _ x=>rds env x) (fun _=>0) (fun _=>false) o.op with
    | some av=>cond (Nat.blt d N) (evS T N r ((d,av)::Yn d env)) none
    | none=>none
section
variable {n:Rn} {N:Nat} {P:Program} {J X:WP} {K S:Nat→Prop} {O:List OB} {w0:World} {env env':List (Nat×AV)} {Q:Exit→Act→WP}
theorem ZuD {ops:Array Oper} {rest:List Oper} (T:Tbl P):∀(pre:List Oper) (env:List (Nat×AV)),evS T N pre env=some env'→(∀ a w,St K S w0 N env' X a w→wpListIn n.F n.d P ops Q rest a w)→∀ a w,St K S w0 N env X a w→wpListIn n.F n.d P ops Q (pre++rest) a w
 | [],env,he,next=>by cases he;exact next
 | o::r,env,he,next=>by
  rw[evS]at he
  cases hg:o.guard with
  | some _=>rw[hg]at he;cases he
  | none=>
   rw[hg]at he
   cases hd:o.dst with
   | none=>rw[hd]at he;cases he
   | some d=>
    rw[hd]at he
    simp only at he
    split at he
    · rename_i av hav
      cases hb:Nat.blt d N with
      | false=>rw[hb]at he;cases he
      | true=>
       rw[hb]at he
       exact sv T hav hg hd hb (ZuD T r _ he next)
    · cases he
theorem snK {ops:Array Oper} {l:List Oper} (k:Nat) (T:Tbl P) (he:evS T N (l.take k) env=some env') (next:∀ a w,St K S w0 N env' X a w→wpListIn n.F n.d P ops Q (l.drop k) a w):∀ a w,St K S w0 N env X a w→wpListIn n.F n.d P ops Q l a w:=by
 have:=ZuD (ops:=ops) (Q:=Q) T (l.take k) env he next
 rwa [List.take_append_drop]at this
theorem seK {ops:Array Oper} (ks:List Nat) (env':List (Nat×AV)) (hk:ks.map (env[·]?)=env'.map some) (h:∀ a w,St K S w0 N env' X a w→Q .normal a w):∀ a w,St K S w0 N env X a w→wpListIn n.F n.d P ops Q [] a w:=sq_end (kw (lz ks hk) h)
end

section
variable {n:Rn} {N:Nat} {P:Program} {J X:WP} {K S:Nat→Prop} {O:List OB} {w0:World} {env:List (Nat×AV)} {l:List Oper} {avs:Nat→AV} {i:Nat} {o:Oper} {t e u:TypeId} {x y:Operand}
theorem Ym {α:Type} {f:α→List CD} {xs:List α} (h1:P.underlying t=some (.slice e)) (hi:l[i]?=some o:=by exact rfl) (hop:o.op= .call { callee:=.builtin .len,args:= #[x],argTypes:= #[t] }:=by exact rfl) (hr:rdv env l avs [] i (ZL o) x=some (.rd (.sl (xs.map f))):=by exact rfl) (hav:avs i= .int (xs.length:Int):=by exact rfl):ObX n P K S w0 env X l avs i o:=hLen h1 hi hop hr hav
theorem iLeS {s:BA} (h1:P.underlying t=some .string) (hi:l[i]?=some o:=by exact rfl) (hop:o.op= .call { callee:=.builtin .len,args:= #[x],argTypes:= #[t] }:=by exact rfl) (hr:rdv env l avs [] i (ZL o) x=some (.str s):=by exact rfl) (hav:avs i= .int (s.size:Int):=by exact rfl):ObX n P K S w0 env X l avs i o:=fun a w _ hx hl hc=>by
 rw[hav];exact r_lenS h1 hop (Xo hl hi hc hr) hx
theorem iIx {α:Type} [Inhabited α] {f:α→List CD} {xs:List α} {k c:Nat} (h1:Yp P t e c) (hi:l[i]?=some o:=by exact rfl) (hop:o.op= .indexAddr t x y:=by exact rfl) (hr:rdv env l avs [] i (ZL o) x=some (.rd (.sl (xs.map f))):=by exact rfl) (hr2:rdv env l avs [] i (ZL o) y=some (.int (k:Int)):=by exact rfl) (hcl:(f (ge xs k)).length=c:=by exact rfl) (hav:avs i= .ptr (f (ge xs k)):=by exact rfl) (hk:k<xs.length:=by first | omega | (simp;omega) | grind[Zp]):ObX n P K S w0 env X l avs i o:=hIx h1 hk hi hop hr hr2 hcl hav
theorem iIz {α:Type} [Inhabited α] {f:α→List CD} {xs:List α} {z:Int} {c:Nat} (h1:Yp P t e c) (hi:l[i]?=some o:=by exact rfl) (hop:o.op= .indexAddr t x y:=by exact rfl) (hr:rdv env l avs [] i (ZL o) x=some (.rd (.sl (xs.map f))):=by exact rfl) (hr2:rdv env l avs [] i (ZL o) y=some (.int z):=by exact rfl) (hcl:(f (ge xs z.toNat)).length=c:=by exact rfl) (hav:avs i= .ptr (f (ge xs z.toNat)):=by exact rfl) (h0:0≤z:=by first | omega | (simp;omega) | grind[Zp]) (hk:z<xs.length:=by first | omega | (simp;omega) | grind[Zp]):ObX n P K S w0 env X l avs i o:=hIz h1 h0 hk hi hop hr hr2 hcl hav
theorem gIx {α:Type} [Inhabited α] {f:α→List CD} {xs:List α} {k c:Nat} (h1:Yp P t e c) (hi:l[i]?=some o:=by exact rfl) (hop:o.op= .indexAddr t x y:=by exact rfl) (hr:rdv env l avs [] i (ZL o) x=some (.rd (.sl (xs.map f))):=by exact rfl) (hr2:rdv env l avs [] i (ZL o) y=some (.int (k:Int)):=by exact rfl) (hcl:(f (ge xs k)).length=c:=by exact rfl) (hav:avs i= .ptr (f (ge xs k)):=by exact rfl) (hk:cnd l avs i=true→k<xs.length):ObX n P K S w0 env X l avs i o:=fun a w _ hx hl hc=>by
 rw[hav];exact ZM h1 hop (Xo hl hi hc hr) (Xo hl hi hc hr2) nnn (ZT (hk hc)) hcl hx
theorem YT {z1 z2:Int} (hi:l[i]?=some o:=by exact rfl) (hop:o.op= .binOp .add t x y u:=by exact rfl) (hr:rdv env l avs [] i (ZL o) x=some (.int z1):=by exact rfl) (hr2:rdv env l avs [] i (ZL o) y=some (.int z2):=by exact rfl) (hav:avs i= .int (z1+z2):=by exact rfl) (h0: -9223372036854775808≤z1+z2∧z1+z2≤9223372036854775807:=by first | omega | (simp;omega) | grind[Zp]):ObX n P K S w0 env X l avs i o:=hAdd h0 hi hop hr hr2 hav
theorem Zu2 {z1 z2:Int} (hi:l[i]?=some o:=by exact rfl) (hop:o.op= .binOp .sub t x y u:=by exact rfl) (hr:rdv env l avs [] i (ZL o) x=some (.int z1):=by exact rfl) (hr2:rdv env l avs [] i (ZL o) y=some (.int z2):=by exact rfl) (hav:avs i= .int (z1-z2):=by exact rfl) (h0: -9223372036854775808≤z1-z2∧z1-z2≤9223372036854775807:=by first | omega | (simp;omega) | grind[Zp]):ObX n P K S w0 env X l avs i o:=hSub h0 hi hop hr hr2 hav
theorem iFn {f:FuncId} {args:List Operand} {ts:Array TypeId} {avl:List AV} {av:AV} (hS:∀ b,w0.heap.size≤b→S b) (hJ:Stab J) (hF:Fn P J f avl av) (h1:Zi P f) (hi:l[i]?=some o:=by exact rfl) (hop:o.op= .call { callee:=.value (.func f),args:=args.toArray,argTypes:=ts }:=by exact rfl)
 (hr:args.map (rdv env l avs [] i (ZL o))=avl.map some:=by exact rfl) (hav:avs i=av:=by exact rfl):ObX n P All S w0 env J l avs i o:=hFn hS hJ hF h1 hi hop hr hav
theorem iBo {cs:List CD} (hS:∀ b,w0.heap.size≤b→S b) (hJ:Stab J) (hi:l[i]?=some o:=by exact rfl) (hop:o.op= .box t x:=by exact rfl) (hr:rdv env l avs [] i (ZL o) x=some (.agg cs):=by exact rfl) (hav:avs i= .ptr cs:=by exact rfl):
 ObX n P All (SO S O) w0 env (XO J S w0.heap.size O) l avs i o:=fun a w hk hx hl hc=>by
 rw[hav];exact Q1 hop (Xo hl hi hc hr) (Zk hS _ hk hx _ nlr) (jo hJ hx)
theorem iBs {cs:List CD} (hS:∀ b,w0.heap.size≤b→S b) (hJ:Stab J) (hi:l[i]?=some o:=by exact rfl) (hop:o.op= .box t x:=by exact rfl) (hr:rdv env l avs [] i (ZL o) x=some (.agg cs):=by exact rfl) (hav:avs i= .ptr cs:=by exact rfl):
 ObX n P All S w0 env J l avs i o:=fun a w hk hx hl hc=>by
 rw[hav];exact Q1 hop (Xo hl hi hc hr) (hS _ hk.size) (js hJ hx)
theorem iFo {f:FuncId} {args:List Operand} {ts:Array TypeId} {avl:List AV} {av:AV} (hS:∀ b,w0.heap.size≤b→S b) (hJ:Stab J) (hF:Fn P J f avl av) (h1:Zi P f) (hi:l[i]?=some o:=by exact rfl) (hop:o.op= .call { callee:=.value (.func f),args:=args.toArray,argTypes:=ts }:=by exact rfl)
 (hr:args.map (rdv env l avs [] i (ZL o))=avl.map some:=by exact rfl) (hav:avs i=av:=by exact rfl):ObX n P All (SO S O) w0 env (XO J S w0.heap.size O) l avs i o:=hFo hS hJ hF h1 hi hop hr hav
end
end Go.Proofs.YtdfadihhfppjaaaGreatDoor
