/-
  THE ENGINE: scopes and labels.
  THE ENGINE: short words for the printed walks.
  THE ENGINE: bytes as numbers, remainders, truth values compared.
-/
import Derived.Scope
import Derived.Test.YtdfadihhfppjaaaGreatDoorQQ
namespace Go.Proofs.YtdfadihhfppjaaaGreatDoor
open Go.RowKit
section
variable {P:Program} {F:Fence} {n:Nat} {Q:Exit→Act→WP} {a:Act} {w:World} {A:Act→WP}
theorem X5 {b:Frame} {k:List Item} {cs:List Frame} {c:Code}:step P (lone (b.atR a (.code (.scope c)::k)) cs w)= .next (lone (b.atR a (.code c:: .inScope c::k)) cs w):=
 step_lone_go (by simp[stepG,stepG.exec,Frame.atR])
theorem Zfv {b:Frame} {k:List Item} {cs:List Frame} {c:Code}:step P (lone (b.atR a (.inScope c::k)) cs w)= .next (lone (b.atR a k) cs w):=
 step_lone_go (by simp[stepG,stepG.exec,Frame.atR])
theorem ZmJ {c:Code} (h:c.wpIn F n P (Exit.noGoto Q) a w):(Code.scope c).wpIn F n P Q a w:=by
 intro b k cs hro hb hr
 have h0:(lone (b.atR a (.code (.scope c)::k)) cs w).fenced P F:=fenced_calm hb hr rfl
 obtain⟨e,a₁,w₁,hq,harr⟩:=h b (.inScope c::k) cs hro hb hr
 cases e with
 | normal=>exact⟨.normal,a₁,w₁,hq,.head h0 X5 (StepsIn.trans harr (.one (fenced_calm hb hr rfl) Zfv))⟩
 | exit id=>
  have hx:exitTo id (.inScope c::k)=exitTo id k:=by simp[exitTo]
  exact⟨.exit id,a₁,w₁,hq,fun k' hk=>.head h0 X5 (harr.1 k' (by rw[hx];exact hk)),fun hr' hk=>let⟨k₁,h1,h2⟩:=harr.2 hr' (by rw[hx];exact hk);⟨k₁,h1,.head h0 X5 h2⟩⟩
 | goto l=>exact hq.elim
 | ret=>exact⟨_,a₁,w₁,hq,.of_steps (.one h0 X5) harr⟩
 | panic ch=>exact⟨_,a₁,w₁,hq,.of_steps (.one h0 X5) harr⟩
 | outgrown=>exact⟨_,a₁,w₁,hq,.of_steps (.one h0 X5) harr⟩
theorem Zgz {n:Rn} {c:Code} (h:Tr n P A c (Exit.noGoto Q)):Tr n P A (.scope c) Q:=fun a w ha=>ZmJ (h a w ha)
theorem Zk2 {n:Rn} {l:Nat} (h:∀ a w,A a w→Q .normal a w):Tr n P A (.label l) Q:=fun a w ha=>wpIn_label (h a w ha)
end
section
variable {n:Rn} {N:Nat} {P:Program} {J X:WP} {K S:Nat→Prop} {O:List OB} {w0:World} {env env':List (Nat×AV)} {a:Act} {w:World} {A B:Act→WP} {Q:Exit→Act→WP} {c:Code} {o0 o1 o2 o3 o4 o5 o6 o7 p:OB}
theorem tw (hAB:∀ {a:Act} {w:World},A a w→B a w) (h:Tr n P B c Q):Tr n P A c Q:=fun a w ha=>h a w (hAB ha)
theorem kw {R:Act→WP} (hAB:∀ {a:Act} {w:World},A a w→B a w) (h:∀ a w,B a w→R a w):∀ a w,A a w→R a w:=fun a w ha=>h a w (hAB ha)
theorem nm (hS:∀ b,w0.heap.size≤b→S b) (hk:Keeps K w0 w):∀ b,w.heap.size≤b→S b:=fun b hb=>hS b (Nat.le_trans hk.size hb)
theorem js (hJ:Stab J) (hx:J w):∀ w',Keeps All w w'→J w':=fun _ hk'=>hJ _ _ hk' hx
theorem jo (hJ:Stab J) (hx:XO J S w0.heap.size O w):∀ w',Keeps All w w'→XO J S w0.heap.size O w':=fun _ hk'=>Yw hJ _ _ hk' hx
theorem lz (ks:List Nat) (hk:ks.map (env[·]?)=env'.map some) (h:St K S w0 N env X a w):St K S w0 N env' X a w:=by
 refine⟨h.defs,h.size,h.keep,h.x,fun p hp=>?_⟩
 have:some p∈ks.map (env[·]?):=by rw[hk];exact List.mem_map.2 ⟨p,hp,rfl⟩
 obtain⟨k,_,hk'⟩:=List.mem_map.1 this
 exact h.env p (List.mem_of_getElem? hk')
theorem sa (m:Nat) {s:Nat} {av av':AV} (hm:env[m]?=some (s,av)) (e:av=av') (h:St K S w0 N env X a w):St K S w0 N (env.set m (s,av')) X a w:=by
 subst e
 rwa [show env.set m (s,av)=env from List.ext_getElem? fun i=>by
  rw[List.getElem?_set]
  split
  · rename_i hi
    subst hi
    have hlt:=(List.getElem?_eq_some_iff.1 hm).1
    rw[if_pos hlt,hm]
  · rfl]
theorem pm1 (h:So J S w0 N (o0::o1::O) env a w):So J S w0 N (o1::o0::O) env a w:=Za5 (YX (A:=[o0])) h
theorem pm2 (h:So J S w0 N (o0::o1::o2::O) env a w):So J S w0 N (o2::o0::o1::O) env a w:=Za5 (YX (A:=[o0,o1])) h
theorem pm3 (h:So J S w0 N (o0::o1::o2::o3::O) env a w):So J S w0 N (o3::o0::o1::o2::O) env a w:=Za5 (YX (A:=[o0,o1,o2])) h
theorem pm4 (h:So J S w0 N (o0::o1::o2::o3::o4::O) env a w):So J S w0 N (o4::o0::o1::o2::o3::O) env a w:=Za5 (YX (A:=[o0,o1,o2,o3])) h
theorem pm5 (h:So J S w0 N (o0::o1::o2::o3::o4::o5::O) env a w):So J S w0 N (o5::o0::o1::o2::o3::o4::O) env a w:=Za5 (YX (A:=[o0,o1,o2,o3,o4])) h
theorem pm6 (h:So J S w0 N (o0::o1::o2::o3::o4::o5::o6::O) env a w):So J S w0 N (o6::o0::o1::o2::o3::o4::o5::O) env a w:=Za5 (YX (A:=[o0,o1,o2,o3,o4,o5])) h
theorem pm7 (h:So J S w0 N (o0::o1::o2::o3::o4::o5::o6::o7::O) env a w):So J S w0 N (o7::o0::o1::o2::o3::o4::o5::o6::O) env a w:=Za5 (YX (A:=[o0,o1,o2,o3,o4,o5,o6])) h
theorem ob0 (e:o0=p) (h:So J S w0 N (o0::O) env a w):So J S w0 N (p::O) env a w:=e▸h
theorem ob1 (e:o1=p) (h:So J S w0 N (o0::o1::O) env a w):So J S w0 N (o0::p::O) env a w:=e▸h
theorem ob2 (e:o2=p) (h:So J S w0 N (o0::o1::o2::O) env a w):So J S w0 N (o0::o1::p::O) env a w:=e▸h

def rds (env:List (Nat×AV)):Operand→Option AV
 | .const v=>lavA v
 | .func f=>some (.fn f [])
 | .tmp s=>Znl env s
 | _=>none
theorem ZvZ (h:St K S w0 N env X a w) {x:Operand} {av:AV} (hx:rds env x=some av):Rel S w av (a.eval x):=by
 unfold rds at hx
 split at hx
 · exact ZiH hx
 · cases hx
   exact Qt _
 · obtain⟨m,hm⟩:=Zdi hx
   exact h.get m hm
 · cases hx
theorem sv {ops:Array Oper} {o:Oper} {rest:List Oper} {d:Nat} {av:AV} (T:Tbl P) (he:ev T (fun _ x=>rds env x) (fun _=>0) (fun _=>false) o.op=some av) (hg:o.guard=none) (hd:o.dst=some d) (hN:Nat.blt d N=true)
 (next:∀ a w,St K S w0 N ((d,av)::Yn d env) X a w→wpListIn n.F n.d P ops Q rest a w):∀ a w,St K S w0 N env X a w→wpListIn n.F n.d P ops Q (o::rest) a w:=
 sq av hg hd (of_eq_true (Nat.blt_eq▸eq_true hN)) (fun _ _ h=>ev_ok T he (fun _ _ hb=>ZvZ h hb) (fun _ _ hz=>by cases hz) h.x) next
end

section
variable {n:Rn} {N:Nat} {P:Program} {J X:WP} {K S:Nat→Prop} {O:List OB} {w0:World} {env:List (Nat×AV)} {l:List Oper} {avs:Nat→AV} {i:Nat} {o:Oper} {t e u:TypeId} {x y:Operand}
theorem Xo {a:Act} {w:World} (hl:Look S w env l avs (cnd l avs) i a) (hi:l[i]?=some o) (hc:cnd l avs i=true) {x:Operand} {av:AV} (h:rdv env l avs [] i (ZL o) x=some av):Rel S w av (a.eval x):=ZjX hl hi hc (fun _ hq=>by cases hq) h
theorem ZgH {a:Act} {w:World} (hl:Look S w env l avs (cnd l avs) i a) (hi:l[i]?=some o) (hc:cnd l avs i=true):∀ {xs:List Operand} {avl:List AV},xs.map (rdv env l avs [] i (ZL o))=avl.map some→RelL S w avl (xs.map a.eval)
 | [],[],_=>by simp[RelL]
 | [],_::_,h=>by cases h
 | _::_,[],h=>by cases h
 | x::xs,av::avl,h=>by
  simp only[List.map_cons,List.cons.injEq]at h
  exact Za (Xo hl hi hc h.1) (ZgH hl hi hc h.2)
theorem hLen {α:Type} {f:α→List CD} {xs:List α} (h1:P.underlying t=some (.slice e)) (hi:l[i]?=some o) (hop:o.op= .call { callee:=.builtin .len,args:= #[x],argTypes:= #[t] }) (hr:rdv env l avs [] i (ZL o) x=some (.rd (.sl (xs.map f)))) (hav:avs i= .int (xs.length:Int)):ObX n P K S w0 env X l avs i o:=fun a w _ hx hl hc=>by
 rw[hav];exact Qw h1 hop (Xo hl hi hc hr) hx
theorem hIx {α:Type} [Inhabited α] {f:α→List CD} {xs:List α} {k c:Nat} (h1:Yp P t e c) (hk:k<xs.length) (hi:l[i]?=some o) (hop:o.op= .indexAddr t x y) (hr:rdv env l avs [] i (ZL o) x=some (.rd (.sl (xs.map f)))) (hr2:rdv env l avs [] i (ZL o) y=some (.int (k:Int))) (hcl:(f (ge xs k)).length=c) (hav:avs i= .ptr (f (ge xs k))):ObX n P K S w0 env X l avs i o:=fun a w _ hx hl hc=>by
 rw[hav];exact ZM h1 hop (Xo hl hi hc hr) (Xo hl hi hc hr2) nnn (ZT hk) hcl hx
theorem hIz {α:Type} [Inhabited α] {f:α→List CD} {xs:List α} {z:Int} {c:Nat} (h1:Yp P t e c) (h0:0≤z) (hk:z<xs.length) (hi:l[i]?=some o) (hop:o.op= .indexAddr t x y) (hr:rdv env l avs [] i (ZL o) x=some (.rd (.sl (xs.map f)))) (hr2:rdv env l avs [] i (ZL o) y=some (.int z)) (hcl:(f (ge xs z.toNat)).length=c) (hav:avs i= .ptr (f (ge xs z.toNat))):ObX n P K S w0 env X l avs i o:=fun a w _ hx hl hc=>by
 rw[hav];exact ZM h1 hop (Xo hl hi hc hr) (Xo hl hi hc hr2) h0 (Zda h0 hk) hcl hx
theorem hAdd {z1 z2:Int} (h0: -9223372036854775808≤z1+z2∧z1+z2≤9223372036854775807) (hi:l[i]?=some o) (hop:o.op= .binOp .add t x y u) (hr:rdv env l avs [] i (ZL o) x=some (.int z1)) (hr2:rdv env l avs [] i (ZL o) y=some (.int z2)) (hav:avs i= .int (z1+z2)):ObX n P K S w0 env X l avs i o:=fun a w _ hx hl hc=>by
 rw[hav];exact Znc hop (Xo hl hi hc hr) (Xo hl hi hc hr2) h0.1 h0.2 hx
theorem hSub {z1 z2:Int} (h0: -9223372036854775808≤z1-z2∧z1-z2≤9223372036854775807) (hi:l[i]?=some o) (hop:o.op= .binOp .sub t x y u) (hr:rdv env l avs [] i (ZL o) x=some (.int z1)) (hr2:rdv env l avs [] i (ZL o) y=some (.int z2)) (hav:avs i= .int (z1-z2)):ObX n P K S w0 env X l avs i o:=fun a w _ hx hl hc=>by
 rw[hav];exact Zv0 hop (Xo hl hi hc hr) (Xo hl hi hc hr2) h0.1 h0.2 hx
theorem hFn {f:FuncId} {args:List Operand} {ts:Array TypeId} {avl:List AV} {av:AV} (hS:∀ b,w0.heap.size≤b→S b) (hJ:Stab J) (hF:Fn P J f avl av) (h1:Zi P f) (hi:l[i]?=some o) (hop:o.op= .call { callee:=.value (.func f),args:=args.toArray,argTypes:=ts })
 (hr:args.map (rdv env l avs [] i (ZL o))=avl.map some) (hav:avs i=av):ObX n P All S w0 env J l avs i o:=fun a w hk hx hl hc=>by
 rw[hav];exact ZaL hF h1 hop (fun b hb=>hS b (Nat.le_trans hk.size hb)) hx (ZgH hl hi hc hr) fun w' hk'=>hJ _ _ hk' hx
theorem hFo {f:FuncId} {args:List Operand} {ts:Array TypeId} {avl:List AV} {av:AV} (hS:∀ b,w0.heap.size≤b→S b) (hJ:Stab J) (hF:Fn P J f avl av) (h1:Zi P f) (hi:l[i]?=some o) (hop:o.op= .call { callee:=.value (.func f),args:=args.toArray,argTypes:=ts })
 (hr:args.map (rdv env l avs [] i (ZL o))=avl.map some) (hav:avs i=av):ObX n P All (SO S O) w0 env (XO J S w0.heap.size O) l avs i o:=fun a w hk hx hl hc=>by
 rw[hav];exact ZaL hF h1 hop (Zk hS _ hk hx) hx.1 (ZgH hl hi hc hr) fun w' hk'=>Yw hJ _ _ hk' hx
end
section
variable {n:Rn} {P:Program} {S S':Nat→Prop} {X:WP} {o:Oper} {a:Act} {w:World} {x y:Operand} {t u:TypeId}
theorem ZoP {s d:TypeId} {b:UInt8} (hs:P.underlying s=some (.int .u8)) (hd:P.underlying d=some (.int .i64)) (hop:o.op= .convert s d x) (h:Rel S' w (.lit (.int .u8 (b.toNat:Int))) (a.eval x)) (hx:X w):Does n P o a w (YC S X (.int (b.toNat:Int)) w):=by
 have hb:=UInt8.toNat_lt b
 refine Zr (v:=.int .i64 (b.toNat:Int)) ?_ (Rel.of_lit _) hx
 have hw:IntKind.i64.wrap (b.toNat:Int)=b.toNat:=by
  have:=IntWalk.i64_in (b.toNat:Int) ⟨oz,oz⟩
  simp[IntKind.wrap,IntKind.bits,IntKind.signed];omega
 simp[execOp,hop,h.lit,convert,Conv.intToInt,Sem.run_bind,run_underlying hs,run_underlying hd,hw]
end
end Go.Proofs.YtdfadihhfppjaaaGreatDoor
