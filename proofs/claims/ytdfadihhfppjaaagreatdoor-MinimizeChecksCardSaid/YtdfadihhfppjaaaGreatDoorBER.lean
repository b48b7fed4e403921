/-
  Part of the proof that MinimizeChecks returns true. Conditions: none.
-/
import Derived.Scope
import Derived.Test.YtdfadihhfppjaaaGreatDoorBEQ
open List (mem_map)
namespace Go.Proofs.YtdfadihhfppjaaaGreatDoor
open Go.RowKit
section
variable {P:Program} {F:Fence} {n:Nat} {Q:Exit->Act->WP} {a:Act} {w:World} {A:Act->WP}
theorem sC {b:Frame} {k:List Item} {cs:List Frame} {c:Code}:step P (lone (b.atR a (.code (.scope c)::k)) cs w)= .next (lone (b.atR a (.code c:: .inScope c::k)) cs w):=
 step_lone_go (by simp[stepG,stepG.exec,Frame.atR])
theorem VT {b:Frame} {k:List Item} {cs:List Frame} {c:Code}:step P (lone (b.atR a (.inScope c::k)) cs w)= .next (lone (b.atR a k) cs w):=
 step_lone_go (by simp[stepG,stepG.exec,Frame.atR])
theorem Xf {c:Code} (h:c.wpIn F n P (Exit.noGoto Q) a w):(Code.scope c).wpIn F n P Q a w:=by
 intro b k cs hro hb hr
 have h0:(lone (b.atR a (.code (.scope c)::k)) cs w).fenced P F:=fenced_calm hb hr rfl
 obtain⟨e,a₁,w₁,hq,harr⟩:=h b (.inScope c::k) cs hro hb hr
 cases e with
 | normal=>exact⟨.normal,a₁,w₁,hq,.head h0 sC (StepsIn.trans harr (.one (fenced_calm hb hr rfl) VT))⟩
 | exit id=>
  have Z:exitTo id (.inScope c::k)=exitTo id k:=by simp[exitTo]
  exact⟨.exit id,a₁,w₁,hq,λk' hk=>.head h0 sC (harr.1 k' (by rw[Z];exact hk)),λhr' hk=>let⟨k₁,h1,h2⟩:=harr.2 hr' (by rw[Z];exact hk);⟨k₁,h1,.head h0 sC h2⟩⟩
 | goto l=>exact hq.elim
 | ret=>exact⟨_,a₁,w₁,hq,.of_steps (.one h0 sC) harr⟩
 | panic ch=>exact⟨_,a₁,w₁,hq,.of_steps (.one h0 sC) harr⟩
 | outgrown=>exact⟨_,a₁,w₁,hq,.of_steps (.one h0 sC) harr⟩
theorem Wo {n:Rn} {c:Code} (h:Tr n P A c (Exit.noGoto Q)):Tr n P A (.scope c) Q:=λa w ha=>Xf (h a w ha)
theorem Wn {n:Rn} {l:Nat} (h:∀ a w,A a w->Q .normal a w):Tr n P A (.label l) Q:=λa w ha=>wpIn_label (h a w ha)
end
section
variable {n:Rn} {N:Nat} {P:Program} {J X:WP} {K S:Nat->Prop} {O:List OB} {w0:World} {env env':List (Nat×AV)} {a:Act} {w:World} {A B:Act->WP} {Q:Exit->Act->WP} {c:Code} {o0 o1 o2 o3 o4 o5 o6 o7 p:OB}
theorem tw (lZ:∀ {a:Act} {w:World},A a w->B a w) (h:Tr n P B c Q):Tr n P A c Q:=λa w ha=>h a w (lZ ha)
theorem kw {R:Act->WP} (lZ:∀ {a:Act} {w:World},A a w->B a w) (h:∀ a w,B a w->R a w):∀ a w,A a w->R a w:=λa w ha=>h a w (lZ ha)
theorem nm (hS:∀ b,w0.heap.size<=b->S b) (hk:Keeps K w0 w):∀ b,w.heap.size<=b->S b:=λb hb=>hS b (Nat.le_trans hk.size hb)
theorem js (V:aR J) (Z:J w):∀ w',Keeps All w w'->J w':=λ_ hk'=>V _ _ hk' Z
theorem jo (V:aR J) (Z:XO J S w0.heap.size O w):∀ w',Keeps All w w'->XO J S w0.heap.size O w':=λ_ hk'=>fo V _ _ hk' Z
theorem lz (ks:List Nat) (hk:ks.map (env[·]?)=env'.map some) (h:St K S w0 N env X a w):St K S w0 N env' X a w:=by
 refine⟨h.defs,h.size,h.keep,h.x,λp hp=>?_⟩
 have:some p∈ks.map (env[·]?):=by rw[hk];exact mem_map.2 ⟨p,hp,rfl⟩
 obtain⟨k,_,hk'⟩:=mem_map.1 this
 exact h.env p (List.mem_of_getElem? hk')
theorem sa (m:Nat) {s:Nat} {av CW:AV} (hm:env[m]?=some (s,av)) (e:av=CW) (h:St K S w0 N env X a w):St K S w0 N (env.set m (s,CW)) X a w:=by
 subst e
 rwa [show env.set m (s,av)=env from List.ext_getElem? λi=>by
  rw[List.getElem?_set]
  split
  · rename_i hi
    subst hi
    have hlt:=(List.getElem?_eq_some_iff.1 hm).1
    rw[if_pos hlt,hm]
  · rfl]
theorem bO (h:So J S w0 N (o0::o1::O) env a w):So J S w0 N (o1::o0::O) env a w:=ot (eM (A:=[o0])) h
theorem du (h:So J S w0 N (o0::o1::o2::O) env a w):So J S w0 N (o2::o0::o1::O) env a w:=ot (eM (A:=[o0,o1])) h
theorem gF (h:So J S w0 N (o0::o1::o2::o3::O) env a w):So J S w0 N (o3::o0::o1::o2::O) env a w:=ot (eM (A:=[o0,o1,o2])) h
theorem ec (h:So J S w0 N (o0::o1::o2::o3::o4::O) env a w):So J S w0 N (o4::o0::o1::o2::o3::O) env a w:=ot (eM (A:=[o0,o1,o2,o3])) h
theorem qD (h:So J S w0 N (o0::o1::o2::o3::o4::o5::O) env a w):So J S w0 N (o5::o0::o1::o2::o3::o4::O) env a w:=ot (eM (A:=[o0,o1,o2,o3,o4])) h
theorem gG (h:So J S w0 N (o0::o1::o2::o3::o4::o5::o6::O) env a w):So J S w0 N (o6::o0::o1::o2::o3::o4::o5::O) env a w:=ot (eM (A:=[o0,o1,o2,o3,o4,o5])) h
theorem sn (h:So J S w0 N (o0::o1::o2::o3::o4::o5::o6::o7::O) env a w):So J S w0 N (o7::o0::o1::o2::o3::o4::o5::o6::O) env a w:=ot (eM (A:=[o0,o1,o2,o3,o4,o5,o6])) h
theorem jr (e:o0=p) (h:So J S w0 N (o0::O) env a w):So J S w0 N (p::O) env a w:=e▸h
theorem GF (e:o1=p) (h:So J S w0 N (o0::o1::O) env a w):So J S w0 N (o0::p::O) env a w:=e▸h
theorem Bf (e:o2=p) (h:So J S w0 N (o0::o1::o2::O) env a w):So J S w0 N (o0::o1::p::O) env a w:=e▸h

def xF (env:List (Nat×AV)):Operand->Option AV
 | .const v=>t7 v
 | .func f=>some (.fn f [])
 | .tmp s=>rW env s
 | _=>none
theorem Uy (h:St K S w0 N env X a w) {x:Operand} {av:AV} (Z:xF env x=some av):Rel S w av (a.eval x):=by
 unfold xF at Z
 split at Z
 · exact F1 Z
 · cases Z
   exact np _
 · obtain⟨m,hm⟩:=AW Z
   exact h.get m hm
 · cases Z
theorem sv {ops:Array Oper} {o:Oper} {rest:List Oper} {d:Nat} {av:AV} (T:gz P) (he:ev T (λ_ x=>xF env x) (λ_=>0) (λ_=>false) o.op=some av) (hg:o.guard=none) (hd:o.dst=some d) (hN:Nat.blt d N=true)
 (next:∀ a w,St K S w0 N ((d,av)::dP d env) X a w->wpListIn n.F n.d P ops Q rest a w):∀ a w,St K S w0 N env X a w->wpListIn n.F n.d P ops Q (o::rest) a w:=
 sq av hg hd (of_eq_true (Nat.blt_eq▸eq_true hN)) (λ_ _ h=>D9 T he (λ_ _ hb=>Uy h hb) (λ_ _ hz=>by cases hz) h.x) next
end

section
variable {n:Rn} {N:Nat} {P:Program} {J X:WP} {K S:Nat->Prop} {O:List OB} {w0:World} {env:List (Nat×AV)} {l:List Oper} {am:Nat->AV} {i:Nat} {o:Oper} {t e u:TypeId} {x y:Operand}
theorem kr {a:Act} {w:World} (hl:Look S w env l am (cnd l am) i a) (hi:l[i]?=some o) (hc:cnd l am i=true) {x:Operand} {av:AV} (h:rdv env l am [] i (cp o) x=some av):Rel S w av (a.eval x):=BL hl hi hc (λ_ hq=>by cases hq) h
theorem xG {a:Act} {w:World} (hl:Look S w env l am (cnd l am) i a) (hi:l[i]?=some o) (hc:cnd l am i=true):∀ {xs:List Operand} {bv:List AV},xs.map (rdv env l am [] i (cp o))=bv.map some->bi S w bv (xs.map a.eval)
 | [],[],_=>by simp[bi]
 | [],_::_,h=>by cases h
 | _::_,[],h=>by cases h
 | x::xs,av::bv,h=>by
  simp only[List.map_cons,List.cons.injEq]at h
  exact aq (kr hl hi hc h.1) (xG hl hi hc h.2)
theorem OI {α:Type} {f:α->List CD} {xs:List α} (h1:P.underlying t=some (.slice e)) (hi:l[i]?=some o) (hop:o.op= .call { callee:=.builtin .len,args:= #[x],argTypes:= #[t] }) (hr:rdv env l am [] i (cp o) x=some (.rd (.sl (xs.map f)))) (cR:am i= .int (xs.length:Int)):ew n P K S w0 env X l am i o:=λa w _ Z hl hc=>by
 rw[cR];exact kq h1 hop (kr hl hi hc hr) Z
theorem hIx {α:Type} [Inhabited α] {f:α->List CD} {xs:List α} {k c:Nat} (h1:dA P t e c) (hk:k<xs.length) (hi:l[i]?=some o) (hop:o.op= .indexAddr t x y) (hr:rdv env l am [] i (cp o) x=some (.rd (.sl (xs.map f)))) (ff:rdv env l am [] i (cp o) y=some (.int (k:Int))) (dl:(f (G xs k)).length=c) (cR:am i= .ptr (f (G xs k))):ew n P K S w0 env X l am i o:=λa w _ Z hl hc=>by
 rw[cR];exact cb h1 hop (kr hl hi hc hr) (kr hl hi hc ff) bK (cl hk) dl Z
theorem OG {α:Type} [Inhabited α] {f:α->List CD} {xs:List α} {z:Int} {c:Nat} (h1:dA P t e c) (h0:0<=z) (hk:z<xs.length) (hi:l[i]?=some o) (hop:o.op= .indexAddr t x y) (hr:rdv env l am [] i (cp o) x=some (.rd (.sl (xs.map f)))) (ff:rdv env l am [] i (cp o) y=some (.int z)) (dl:(f (G xs z.toNat)).length=c) (cR:am i= .ptr (f (G xs z.toNat))):ew n P K S w0 env X l am i o:=λa w _ Z hl hc=>by
 rw[cR];exact cb h1 hop (kr hl hi hc hr) (kr hl hi hc ff) h0 (ol h0 hk) dl Z
theorem Oz {z1 z2:Int} (h0: -9223372036854775808<=z1+z2/\z1+z2<=9223372036854775807) (hi:l[i]?=some o) (hop:o.op= .binOp .add t x y u) (hr:rdv env l am [] i (cp o) x=some (.int z1)) (ff:rdv env l am [] i (cp o) y=some (.int z2)) (cR:am i= .int (z1+z2)):ew n P K S w0 env X l am i o:=λa w _ Z hl hc=>by
 rw[cR];exact qE hop (kr hl hi hc hr) (kr hl hi hc ff) h0.1 h0.2 Z
theorem OK {z1 z2:Int} (h0: -9223372036854775808<=z1-z2/\z1-z2<=9223372036854775807) (hi:l[i]?=some o) (hop:o.op= .binOp .sub t x y u) (hr:rdv env l am [] i (cp o) x=some (.int z1)) (ff:rdv env l am [] i (cp o) y=some (.int z2)) (cR:am i= .int (z1-z2)):ew n P K S w0 env X l am i o:=λa w _ Z hl hc=>by
 rw[cR];exact BH hop (kr hl hi hc hr) (kr hl hi hc ff) h0.1 h0.2 Z
theorem hFn {f:FuncId} {args:List Operand} {ts:Array TypeId} {bv:List AV} {av:AV} (hS:∀ b,w0.heap.size<=b->S b) (V:aR J) (hF:Fn P J f bv av) (h1:dy P f) (hi:l[i]?=some o) (hop:o.op= .call { callee:=.value (.func f),args:=args.toArray,argTypes:=ts })
 (hr:args.map (rdv env l am [] i (cp o))=bv.map some) (cR:am i=av):ew n P All S w0 env J l am i o:=λa w hk Z hl hc=>by
 rw[cR];exact cV hF h1 hop (λb hb=>hS b (Nat.le_trans hk.size hb)) Z (xG hl hi hc hr) λw' hk'=>V _ _ hk' Z
theorem OC {f:FuncId} {args:List Operand} {ts:Array TypeId} {bv:List AV} {av:AV} (hS:∀ b,w0.heap.size<=b->S b) (V:aR J) (hF:Fn P J f bv av) (h1:dy P f) (hi:l[i]?=some o) (hop:o.op= .call { callee:=.value (.func f),args:=args.toArray,argTypes:=ts })
 (hr:args.map (rdv env l am [] i (cp o))=bv.map some) (cR:am i=av):ew n P All (SO S O) w0 env (XO J S w0.heap.size O) l am i o:=λa w hk Z hl hc=>by
 rw[cR];exact cV hF h1 hop (aK hS _ hk Z) Z.1 (xG hl hi hc hr) λw' hk'=>fo V _ _ hk' Z
theorem OE {f:FuncId} {args:List Operand} {ts:Array TypeId} {bv:List AV} {av:AV} {lo:Nat} (hS:∀ b,w0.heap.size<=b->S b) (V:aR J) (hF:Fn P J f bv av) (h1:dy P f) (hi:l[i]?=some o) (hop:o.op= .call { callee:=.value (.func f),args:=args.toArray,argTypes:=ts })
 (hr:args.map (rdv env l am [] i (cp o))=bv.map some) (cR:am i=av):ew n P All S w0 env (XO J S lo O) l am i o:=λa w hk Z hl hc=>by
 rw[cR];exact cV hF h1 hop (λb hb=>hS b (Nat.le_trans hk.size hb)) Z.1 (xG hl hi hc hr) λw' hk'=>fo V _ _ hk' Z
end
end Go.Proofs.YtdfadihhfppjaaaGreatDoor
