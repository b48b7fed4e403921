/-
  Part of the proof that MinimizeChecks returns true. Conditions: none.
-/
import Derived.Test.YtdfadihhfppjaaaGreatDoorBEV
import Derived.Sort.Grow
namespace Go.Proofs.YtdfadihhfppjaaaGreatDoor
open Go.Proofs.Tryz
open List (append_assoc length_map mem_cons perm_middle)
section
open Go.RowKit Go.Sort
def Ex (W w:World):Prop:=∃ q os,w=grow (W.drewN q) os
theorem Eb (W:World):Ex W W:=⟨0, #[],by rw[grow_empty];rfl⟩
theorem Ea {W w:World} (h:Ex W w) (o:Obj):Ex W (w.alloc o):=by
 obtain⟨q,os,rfl⟩:=h
 exact⟨q,os++ #[o],by rw[alloc_eq_grow,grow_grow]⟩
theorem M9 {W w:World} (h:Ex W w):Ex W w.drew:=by
 obtain⟨q,os,rfl⟩:=h
 exact⟨q+1,os,rfl⟩
section
variable {P:Program} {n:Rn} {S:Nat->Prop} {W:World} {o:Oper} {a:Act} {w:World} {x:Operand} {t e:TypeId}
theorem yo {cs:List CD} (hop:o.op= .box t x) (h:Rel S w (.agg cs) (a.eval x)) (hS:S w.heap.size) (Z:Ex W w):Does n P o a w (bG S (Ex W) (.ptr cs) w):=by
 simp only[Rel]at h
 obtain⟨us,hv,hr⟩:=h
 have hk:Keeps All w (w.alloc (.cells us.toArray t)):=(Keeps.refl _ _).alloc _
 refine en (v:=.pointer (some ⟨w.heap.size,0,none⟩)) (w':=w.alloc (.cells us.toArray t)) ?_ ⟨?_,hk,Ea Z _⟩
 ·simp[execOp,hop,hv,Instr.box,newVar,newRow,newObj,Sem.run,Value.cells]
 ·simp only[Rel]
  exact⟨w.heap.size,0,us,rfl,by simp,hS,hr.keep hk λ_ _ _=>trivial,λj u hj=>nJ j u hj⟩
theorem Xs {k:Nat} {cs:List CD} {parts:Array (Nat×Operand)} {us:List Value} (ht:dA P t e 1) (hz:mA P e 1) (hop:o.op= .buildSlice t k parts) (hp:(parts.map λ(i,x)=>(i,a.eval x)).toList=us.zipIdx.map λp=>(p.2,p.1)) (h:bE S w cs us) (hk:us.length=k) (hk0:0<k) (hk1:k<=1000) (hS:S w.heap.size) (Z:Ex W w):
 Does n P o a w (bG S (Ex W) (.rd (.sl (cs.map λc=>[c]))) w):=by
 obtain⟨z,hz,lD,_⟩:=hz
 have hk':Keeps All w (w.alloc (.cells us.toArray e)):=(Keeps.refl _ _).alloc _
 have hf:=wc (k:=k) (place:=λi=>some (i*1,1)) (λj _=>by simp) us 0 ((Array.range (k*1)).map (z.cells[· %z.cells.size]!)) yz oz h.one
 refine en (v:=.slice (some ⟨w.heap.size,0,none⟩) k k) (w':=w.alloc (.cells us.toArray e)) ?_ ⟨?_,hk',Ea Z _⟩
 ·have qk:(parts.map λ(i,x)=>(i,a.eval x)).toList=us.zipIdx.map λp=>(p.2,p.1):=hp
  have hd:((Array.range (k*1)).map (z.cells[· %z.cells.size]!)).toList.drop (0+us.length)=[]:=by
   apply List.drop_of_length_le;simp;omega
  rw[hd]at hf
  simp only[List.take_zero,List.nil_append,List.append_nil]at hf
  rw[execOp,hop]
  have hn:¬ (k*1>2^24):=by omega
  have Ao:¬ (k*1=0):=by omega
  simp only[Sem.run_bind,Instr.buildSlice,run_underlying ht.1,Result.andThen_ok,ht.2 w,if_neg hn,if_neg Ao,hz w,qk]
  simp only[Nat.mul_one]at hf ⊢
  simp[newRow,newObj,Sem.run,hf]
 ·simp only[Rel]
  have hlen:(cs.map λc=>[c]).length=k:=by rw[length_map,<-hk,h.length]
  rw[<-hlen]
  refine Rd.of_cells (n:=1) (us:=us) aV (by rw[hlen];simp only[maxLen];omega) yz hS (λr hr=>by obtain⟨c,_,rfl⟩:=List.mem_map.1 hr;rfl) ?_ λj u hj=>nJ j u hj
  have:(cs.map λc=>[c]).flatten=cs:=by
   clear hlen hf h hp
   induction cs with
   | nil=>rfl
   | cons c cs ih=>simp only[List.map_cons,List.flatten_cons,ih];rfl
  rw[this]
  exact h.keep hk' λ_ _ _=>trivial
theorem yp {f:FuncId} {args:List Operand} {ts:Array TypeId} {vs:List Value} {r:Value} (h1:dy P f) (hop:o.op= .call { callee:=.value (.func f),args:=args.toArray,argTypes:=ts }) (hv:args.map a.eval=vs) (hc:Calls P f vs.toArray w λe w'=>e= .returned r/\w'=w) (hr:io r) (Z:Ex W w):Does n P o a w (bG S (Ex W) (.lit r) w):=by
 refine xy h1 hop ?_
 rw[List.map_toArray,hv]
 refine hc.mono λe w' ⟨he,hw⟩=>⟨r,he,Rel.aH _ hr,hw▸Keeps.refl _ _,hw▸Z⟩
end
section
variable {P:Program} {n:Rn} {S S':Nat->Prop} {X:WP} {o:Oper} {a:Act} {w:World} {x y:Operand} {t u s d:TypeId}
theorem Up {k:Nat} (hs:P.underlying s=some (.int .i64)) (hd:P.underlying d=some (.int .u64)) (hop:o.op= .convert s d x) (h:Rel S' w (.int (k:Int)) (a.eval x)) (hk:k<18446744073709551616) (Z:X w):Does n P o a w (bG S X (.lit (.int .u64 (k:Int))) w):=by
 refine cN (v:=.int .u64 (k:Int)) ?_ (Rel.aH _) Z
 have hw:IntKind.u64.wrap (k:Int)=k:=by simp[IntKind.wrap,IntKind.bits,IntKind.signed];omega
 simp[execOp,hop,h.lit,convert,Conv.intToInt,Sem.run_bind,run_underlying hs,run_underlying hd,hw]
theorem Uj {k:Nat} (hs:P.underlying s=some (.int .u64)) (hd:P.underlying d=some (.int .i64)) (hop:o.op= .convert s d x) (h:Rel S' w (.lit (.int .u64 (k:Int))) (a.eval x)) (hk:k<=9223372036854775807) (Z:X w):Does n P o a w (bG S X (.int (k:Int)) w):=by
 refine cN (v:=.int .i64 (k:Int)) ?_ (Rel.aH _) Z
 have hw:IntKind.i64.wrap (k:Int)=k:=IntWalk.i64_in (k:Int) ⟨oz,oz⟩
 simp[execOp,hop,h.lit,convert,Conv.intToInt,Sem.run_bind,run_underlying hs,run_underlying hd,hw]
theorem Ub {k:Nat} (hop:o.op= .binOp .shr t x y u) (h:Rel S w (.lit (.int .u64 (k:Int))) (a.eval x)) (hy:Rel S w (.lit (.int .u64 1)) (a.eval y)) (Z:X w):Does n P o a w (bG S X (.lit (.int .u64 ((k/2:Nat):Int))) w):=by
 have hrun:(binOp .shr t (.int .u64 (k:Int)) (.int .u64 1)).run P w= .ok (.int .u64 ((k/2:Nat):Int)) w:=by
  have h2:(k:Int).fdiv (2^ (min (Int.toNat 1) 64))=((k/2:Nat):Int):=by
   rw[show(2:Int)^ (min (Int.toNat 1) 64)=2 from by decide,Int.fdiv_eq_ediv_of_nonneg _ oz]
   omega
  show(Op.shift .shr .u64 (k:Int) .u64 1).run P w=_
  unfold Op.shift
  rw[if_neg oz]
  show Result.ok (Value.int .u64 ((k:Int).fdiv (2^ (min (Int.toNat 1) 64)))) w=_
  rw[h2]
 exact j3 True.intro (nR ..) hrun hop h hy Z
end
section
variable {P:Program} {n:Rn} {S S':Nat->Prop} {X:WP} {o:Oper} {a:Act} {w:World} {x:Operand} {t e:TypeId} {k:Nat} {v:Value} {rows:List (List CD)}
theorem Uo {lo m:Nat} (hm:rows.length-lo=m) (h1:P.underlying t=some (.slice e)) (hop:o.op= .call { callee:=.builtin .len,args:= #[x],argTypes:= #[t] }) (hi:∃ l,(OB.row v e k rows).inv l S w) (h:Rel S' w (.lit (jN v lo k)) (a.eval x)) (Z:X w):
 Does n P o a w (bG S X (.int m) w):=by
 subst hm
 obtain⟨l,us,g1,_⟩:=hi
 refine cN (v:=.int .i64 ((rows.length-lo:Nat):Int)) ?_ (Rel.aH _) Z
 rcases g1.2 with⟨hv,h4⟩ | ⟨g,cap,cur,hv,_⟩
 ·simp[execOp,hop,h.lit,hv,jN,resolve,invoke,builtin,Builtin.len_,Sem.run_bind,run_underlying h1,goInt,h4]
 ·simp[execOp,hop,h.lit,hv,jN,resolve,invoke,builtin,Builtin.len_,Sem.run_bind,run_underlying h1,goInt]
end
end
set_option maxHeartbeats 8000000
set_option maxRecDepth 100000
section
open Go.RowKit
theorem Qb (s:BA) (w:World):Calls prog 152 #[.string s] w λe w'=>e= .returned (.bool false)/\w'=w:=by
 go_enter func152,ntmps152
 go_wp2
 go_ret
 exact⟨by simp,Y⟩
theorem y4 (x y:BA) (w:World):Calls prog 126 #[.string x,.string y] w λe w'=>e= .returned (.int .i64 (dS x y))/\w'=w:=by
 go_enter func126,ntmps126
 go_wp2_with (go_at_call 152;refine(Qb _ _).mono ?_;rintro e w' ⟨rfl,rfl⟩)
 all_goals go_ret
 ·rename_i h
  exact⟨by rw[dS,if_pos h];rfl,Y⟩
 ·rename_i h2 _ _ h
  have h3:¬ x=y:=λe=>by simp[e]at h
  exact⟨by rw[dS,if_neg (by simp[h2]),if_neg h3];rfl,Y⟩
 ·rename_i h2 h
  have h3:x=y:=by
   have:=rn x y
   simp_all
  exact⟨by rw[dS,if_neg (by simp[h2]),if_pos h3];rfl,Y⟩
theorem RV (b off cap:Nat) (x y:Int) (w:World) (h0:w.cell? ⟨b,off,none⟩=some (.int .i64 x)) (h1:w.cell? ⟨b,off+1,none⟩=some (.int .i64 y)):Calls prog 44 #[.slice (some ⟨b,off,none⟩) 2 cap] w λe w'=>e= .returned (.int .i64 (k9 [x,y]))/\w'=w:=by
 go_enter func44,ntmps44
 go_wp2_with fail
 refine wp_loop_rounds 3 ?_
 rw[rounds_succ]
 go_wp2
 ·rename_i h
  go_ret
  exact⟨by simp at h;simp[k9,h],Y⟩
 rw[rounds_succ]
 go_wp2
 ·rename_i h2 _ _ h
  go_ret
  exact⟨by simp at h h2;simp[k9,h,h2],Y⟩
 rw[rounds_succ]
 go_wp2
 have h3:x=0:=by simpa using ‹(x !=0)=false›
 have h4:y=0:=by simpa using ‹(y !=0)=false›
 go_ret
 exact⟨by simp[k9,h3,h4],Y⟩
def lT (p:Pr):List Value:=[.string p.a,.string p.b]
theorem Iq {T:Nat->Prop} {w:World} {p:Pr} (h1:p.a.size<=maxLen) (h2:p.b.size<=maxLen):Rel T w (.agg (aS p)) (.agg (lT p).toArray):=by
 simp only[Rel]
 exact⟨_,Y,.lit _ h1,.lit _ h2,U⟩
theorem LQ (p q:Pr) (hp:p.a.size<=maxLen/\p.b.size<=maxLen) (hq:q.a.size<=maxLen/\q.b.size<=maxLen) (W:World):Calls prog 123 #[.agg (lT p).toArray,.agg (lT q).toArray] W λe w'=>e= .returned (.int .i64 (iL p q))/\Ex W w':=by
 have ha:bi (λ_=>True) W [.agg (aS p),.agg (aS q)] [.agg (lT p).toArray,.agg (lT q).toArray]:=aq (Iq hp.1 hp.2) (aq (Iq hq.1 hq.2) aN)
 obtain⟨g1,g2⟩:=sc (N:=17) (M:=17) yz Y ha
 refine(callsIn_wide (n:=5)).1 (callsIn_of_wp func123 Y trivial ?_ Y)
 suffices h:Tr 5 prog (St All (λ_=>True) W 17 (jq 0 [.agg (aS p),.agg (aS q)]) (Ex W)) _ _ from h _ _ ⟨Y,g1,Keeps.refl _ _,Eb W,g2⟩
 refine aL (sy (.ptr (aS p)) (λh=>yo Y (h.get 0 Y) trivial h.x) ?_)
 refine sy (.ptr (aS q)) (λh=>yo Y (h.get 2 Y) trivial h.x) ?_
 refine sy (.int 0) (λh=>gY Y (Rel.aH _) h.x) ?_
 refine aA [1,2] U2 Y (nx (af (λa w h=>Ii (λix'=>([.ptr (aS p),.str p.a,.ptr (aS q),.str q.a,.int (dS p.a q.a),.ptr [lS p.b],.str p.b,.ptr [lS q.b],.str q.b,.int (dS p.b q.b),.rd (.sl [[lI (dS p.a q.a)],[lI (dS p.b q.b)]]),.int (iL p q),.int (iL p q)]:List AV).getD ix' .any) (λ_=>true) [(4,.int (iL p q))] h (λ_ h=>h) cU Y Y Y (λ_=>M9) ⟨?o0,?o1,?o2,?o3,?o4,?o5,?o6,?o7,?o8,?o9,?Rt,?Ru,?Rv,U⟩ ⟨.new 12 4 _ Y Y Y (.inl ⟨_,Y⟩),U⟩ ?n)))
 case o0=>exact⟨Y,λa w _ Z hl _=>cd tv Y (hl.env 1 2 _ Y Y) Z⟩
 case o1=>exact⟨Y,λa w _ Z hl _=>bU fh Y (hl.dep 0 5 _ Y Y Y Y) Z⟩
 case o2=>exact⟨Y,λa w _ Z hl _=>cd tv Y (hl.env 0 3 _ Y Y) Z⟩
 case o3=>exact⟨Y,λa w _ Z hl _=>bU fh Y (hl.dep 2 7 _ Y Y Y Y) Z⟩
 case o4=>exact⟨Y,λa w _ Z hl _=>yp (args:=[.tmp 6,.tmp 8]) (vs:=[.string p.a,.string q.a]) (cO func126) Y (by rw[List.map_cons,List.map_cons,List.map_nil,(hl.dep 1 6 _ Y Y Y Y).lit,(hl.dep 3 8 _ Y Y Y Y).lit]) (y4 _ _ _) True.intro Z⟩
 case o5=>exact⟨Y,λa w _ Z hl _=>cd tz Y (hl.env 1 2 _ Y Y) Z⟩
 case o6=>exact⟨Y,λa w _ Z hl _=>bU fh Y (hl.dep 5 10 _ Y Y Y Y) Z⟩
 case o7=>exact⟨Y,λa w _ Z hl _=>cd tz Y (hl.env 0 3 _ Y Y) Z⟩
 case o8=>exact⟨Y,λa w _ Z hl _=>bU fh Y (hl.dep 7 12 _ Y Y Y Y) Z⟩
 case o9=>exact⟨Y,λa w _ Z hl _=>yp (args:=[.tmp 11,.tmp 13]) (vs:=[.string p.b,.string q.b]) (cO func126) Y (by rw[List.map_cons,List.map_cons,List.map_nil,(hl.dep 6 11 _ Y Y Y Y).lit,(hl.dep 8 13 _ Y Y Y Y).lit]) (y4 _ _ _) True.intro Z⟩
 case Rt=>exact⟨Y,λa w _ Z hl _=>Xs (k:=2) (us:=[a.eval (.tmp 9),a.eval (.tmp 14)]) c8 JF Y yz (b6 (hl.dep 4 9 _ Y Y Y Y) (b6 (hl.dep 9 14 _ Y Y Y Y) cM)) Y dz dz trivial Z⟩
 case Ru=>
  refine⟨Y,λa w _ Z hl _=>?_⟩
  have hr:=hl.dep 10 15 _ Y Y Y Y
  simp only[List.getD_cons_succ,List.getD_cons_zero,Rel]at hr
  generalize hrows:([[lI (dS p.a q.a)],[lI (dS p.b q.b)]]:List (List CD))=rows at hr
  generalize hv:a.eval (.tmp 15)=v at hr
  cases hr with
  | nil=>cases hrows
  | sl b off cap n rows vs hl2 hm hb hS hn hc hrd=>
   subst hrows
   have h1:n=1:=(hn _ (List.mem_cons_self)).symm
   subst h1
   have h0:=hc 0 0 yz oz
   have h1:=hc 1 0 yz oz
   rw[(hrd 0 0 _ _ Y Y).aH]at h0
   rw[(hrd 1 0 _ _ Y Y).aH]at h1
   refine(?_:Does _ _ _ _ _ (bG _ (Ex W) (.int (iL p q)) w))
   rw[<-DL]
   exact yp (args:=[.tmp 15]) (vs:=[.slice (some ⟨b,off,none⟩) 2 cap]) (cO func44) Y (by rw[List.map_cons,List.map_nil,hv];rfl) (RV b off cap _ _ w h0 h1) True.intro Z
 case Rv=>exact⟨Y,λa w _ Z hl _=>gY Y (hl.dep 11 16 _ Y Y Y Y) Z⟩
 refine nx (aX λa w h=>⟨h.defs,a.tmps.getD 4 undef,by simp[results,results123,Sem.run_pure],?_,h.x⟩)
 rw[show a.tmps.getD 4 undef= .int .i64 (iL p q)from(h.get 0 Y).lit]
theorem Sv {J:WP} (V:aR J) (v:Value) (ps:List Pr) (hn:ps.length<=9223372036854775807):fc (ι:=Value) prog J 146 [] [.lit v] [OB.row v 162 2 (ps.map aS)] (λi'=>.lit (i')) (λi'=>[OB.row i' 162 2 ((fL ps ps.length).map aS)]):=by
 refine ji func146 λS w0 R hS hJ0 hH=>?_
 refine g5 (B:=So J S w0 61 (OB.row v 162 2 (ps.map aS)::R) [(0,.lit v)]) ?_ λa w h=>h
 refine aj tb V [0] [_] [_] ?_
 refine af (au tb V [0,1002] [_,.int (ps.length:Nat),_] [1] U2 Y ⟨λ_ _ _ Z hl _=>pm (by rw[length_map]) fQ Y (aG Z (mo 0 Y)) (hl.D 0 6 Y Y) Z,U⟩ ?_)
 refine cj 1 ?_ ?_<;>intro hb1<;>try simp at hb1
 ·refine aj tb V [1001] U2 [_] ?_
  exact tw (jr (congrArg (λz'=>OB.row v 162 2 ((z').map aS)) (show ps=(fL ps ps.length)from by first | exact ze oz | exact(tp.trans (by congr 1;omega)) | exact zd oz ah bh))) (aX (λa w h=>dx  (m:=0) v Y h Y Y))
 ·refine ak (nx (af (aj tb V [0,1000] [_] U2 ?_)))
  refine ax (lpo (ι:=Nat) (λk=>(1<=k)/\(k<=ps.length)/\(fL ps k=ps.take k)) (λ_=>(OB.row v 162 2 (ps.map aS)::R)) (λk=>[(3,.int (k:Nat))]) (λk=>ps.length-k) [0,1] [_] 1 ⟨oz,oz,LV oz⟩ ?_)
  rintro k ⟨aQ,ah,bh⟩
  refine af (au tb V [0,1,1003] [_,_,.int (ps.length:Nat),_] [2] U3 Y ⟨λ_ _ _ Z hl _=>pm (by rw[length_map]) fQ Y (aG Z (mo 0 Y)) (hl.D 1 11 Y Y) Z,U⟩ ?_)
  refine cj 2 ?_ ?_<;>intro hb2<;>try simp at hb2
  ·refine ak (nx (af (ax (au tb V [0,1,1009] [_,_,.lit (cG v (k*2)),.agg (aS (G ps k)),_,_,.int (k-1:Nat),.lit (cG v ((k-1)*2)),.agg (aS (G ps (k-1))),.bool (decide ((G ps k).a=(G ps (k-1)).a)&&decide ((G ps k).b=(G ps (k-1)).b))] [2,3,6,7,8,9] U3 Y ⟨λ_ _ _ Z hl _=>eZ (i:=(k:Int)) df Y (aG Z (mo 0 Y)) (hl.D 0 16 Y Y) (hl.D 1 17 Y Y) bK (by rw[length_map];exact Int.ofNat_lt.2 ay) Z,λ_ _ _ Z hl _=>pn (i:=k) jE Y (aG Z (mo 0 Y)) (hl.D 2 18 Y Y) (iG (xs:=ps) (k:=k) ay) Y Z,λ_ _ _ Z hl _=>qI (i:=k) (j:=1) Y (hl.D 5 21 Y Y) (Rel.aH (.int .i64 1)) ay ay Z,λ_ _ _ Z hl _=>eZ (i:=((k-1:Nat):Int)) df Y (aG Z (mo 0 Y)) (hl.D 4 20 Y Y) (hl.D 6 22 Y Y) bK (by rw[length_map];exact Int.ofNat_lt.2 ay) Z,λ_ _ _ Z hl _=>pn (i:=k-1) jE Y (aG Z (mo 0 Y)) (hl.D 7 23 Y Y) (iG (xs:=ps) (k:=k-1) ay) Y Z,λ_ _ _ Z hl _=>BB ru Y (hl.D 3 19 Y Y) (hl.D 8 24 Y Y) Z,U⟩ ?_))))
   refine cj 2 ?_ ?_<;>intro aD<;>try simp at aD
   ·have e3:G ps k=G ps (k-1):=Hx aD.1 aD.2
    refine au tb V [0,1,1003] [_,_,.lit (jN v k 2),_] [2] U3 Y ⟨λ_ _ _ Z hl _=>xE (lo:=k) df Y (aG Z (mo 0 Y)) (hl.D 0 26 Y Y) (hl.D 1 27 Y Y) (by rw[length_map];exact ay) Z,U⟩ ?_
    refine af (aj tb V [0,1,2,1000] [_] U4 ?_)
    refine ax (lpo (ι:=Nat×Nat×(List Pr)) (λ(m,j,rs)=>(1<=m)/\(k+m<=ps.length)/\(rs.length=ps.length)/\(∀ i,k+m-1<=i->i<ps.length->G rs i=G ps i)/\(rs.take j=fL ps (k+m))/\(j<=k+m-1)/\(k<=j)) (λ(_,_,rs)=>(OB.row v 162 2 (rs.map aS)::R)) (λ(m,j,_)=>[(5,.int (m:Nat)),(3,.int (j:Nat))]) (λ(m,_,_)=>ps.length-(k+m)) [0,2,3,1] U2 (1,k,ps) ⟨Nat.le_refl _,oz,Y,λ_ _ _=>Y,by rw[zc oz e3,bh],Nat.le_refl _,Nat.le_refl _⟩ ?_)
    rintro⟨m,j,rs⟩ ⟨fD,bu,i5,mN,tp,XD,Nf⟩
    refine af (au tb V [0,1,2,3,1003] [_,_,.int (rs.length-k:Nat),_] [2] U5 Y ⟨λ_ _ _ Z hl _=>Uo (by rw[length_map]) fQ Y (aG Z (mo 0 Y)) (hl.D 1 30 Y Y) Z,U⟩ ?_)
    refine cj 4 ?_ ?_<;>intro bd<;>try simp at bd
    ·refine ak (nx (af (ax (au tb V [0,1,2,3,1009] [_,_,.lit (cG v ((k+m)*2)),.agg (aS (G rs (k+m))),_,_,.int (m-1:Nat),.lit (cG v ((k+(m-1))*2)),.agg (aS (G rs (k+(m-1)))),.bool (!(decide ((G rs (k+m)).a=(G rs (k+(m-1))).a)&&decide ((G rs (k+m)).b=(G rs (k+(m-1))).b)))] [2,3,6,7,8,9] U5 Y ⟨λ_ _ _ Z hl _=>BI (lo:=k) (i:=(m:Int)) df Y (aG Z (mo 0 Y)) (hl.D 0 35 Y Y) (hl.D 1 36 Y Y) bK (by rw[length_map];exact ay) Z,λ_ _ _ Z hl _=>pn (i:=(k+m)) jE Y (aG Z (mo 0 Y)) (hl.D 2 37 Y Y) (iG (xs:=rs) (k:=(k+m)) ay) Y Z,λ_ _ _ Z hl _=>qI (i:=m) (j:=1) Y (hl.D 5 40 Y Y) (Rel.aH (.int .i64 1)) ay ay Z,λ_ _ _ Z hl _=>BI (lo:=k) (i:=((m-1:Nat):Int)) df Y (aG Z (mo 0 Y)) (hl.D 4 39 Y Y) (hl.D 6 41 Y Y) bK (by rw[length_map];exact ay) Z,λ_ _ _ Z hl _=>pn (i:=(k+(m-1))) jE Y (aG Z (mo 0 Y)) (hl.D 7 42 Y Y) (iG (xs:=rs) (k:=(k+(m-1))) ay) Y Z,λ_ _ _ Z hl _=>BE ru Y (hl.D 3 38 Y Y) (hl.D 8 43 Y Y) Z,U⟩ ?_))))
     refine cj 4 ?_ ?_<;>intro bW<;>try simp at bW
     ·have e4:¬ G ps (k+m)=G ps (k+m-1):=λe=>by rw[<-mN _ oz oz,<-mN _ aV oz]at e;rw[show k+(m-1)=k+m-1 by omega,e]at bW;simp at bW
      refine aL (ao 4 tb Y (sy (.lit (cG v ((k+m)*2))) (λh=>BI (lo:=k) (i:=(m:Int)) df Y (aG h.x (mo 0 Y)) (h.get 1 Y) (h.get 0 Y) bK (by rw[length_map];exact ay) h.x) ?_))
      refine sy (.agg (aS (G rs (k+m)))) (λh=>pn (i:=(k+m)) jE Y (aG h.x (mo 0 Y)) (h.get 0 Y) (iG (xs:=rs) (k:=(k+m)) ay) Y h.x) ?_
      refine sy (.lit (cG v (j*2))) (λh=>eZ (i:=(j:Int)) df Y (aG h.x (mo 0 Y)) (h.get 5 Y) (h.get 4 Y) bK (by rw[length_map];exact Int.ofNat_lt.2 ay) h.x) ?_
      refine xZ (i:=j) V hJ0 j6 Y Y Y (by rw[length_map];exact ay) Y (λa w h=>⟨(h.get 0 Y),(h.get 1 Y)⟩) ?_
      rw[show(rs.map aS).set j (aS (G rs (k+m)))=(rs.set j (G rs (k+m))).map aS from List.map_set.symm]
      refine aA [7,8,9,10] U4 Y (nx (aT tb V [0,1,2,1002] [_,.int (j+1:Nat),_] [1] U4 Y ⟨aM,U⟩ ?_))
      refine nx (aT tb V [0,1,3,1002] [_,.int (m+1:Nat),_] [1] U4 Y ⟨aM,U⟩ ?_)
      exact br (m+1,j+1,rs.set j (G rs (k+m))) [0,1,3,2] ⟨oz,oz,by rw[List.length_set];exact i5,λi h1 h2=>by rw[Oi oz];exact mN i oz h2,by rw[take_set oz,tp,mN _ oz oz];exact(zb (.inr e4)).symm,oz,oz⟩
     ·have e4:G ps (k+m)=G ps (k+m-1):=by rw[<-mN _ oz oz,<-mN (k+m-1) aV oz];rw[show k+(m-1)=k+m-1 by omega]at bW;exact Hx bW.1 bW.2
      refine ak (nx (aT tb V [0,1,3,1002] [_,.int (m+1:Nat),_] [1] U4 Y ⟨aM,U⟩ ?_))
      exact br (m+1,j,rs) [0,1,3,2] ⟨oz,oz,i5,λi h1 h2=>mN i oz h2,by rw[tp];exact(zc oz e4).symm,oz,Nf⟩
    ·refine aW (nx (aL (ao 2 tb Y (sy (.lit (jN v j 2)) (λh=>xE (lo:=j) df Y (aG h.x (mo 0 Y)) (h.get 1 Y) (h.get 0 Y) (by rw[length_map];exact ay) h.x) ?_))))
     refine B3 (lo:=j) JE fQ dz V hJ0 Y Y Y (by rw[length_map];exact ay) (λa w h=>(h.get 0 Y)) ?_
     rw[<-List.map_take]
     refine aA [3,6] U2 Y (nx (au tb V [1003] [_,_,.lit (dB v j),_] [2] [_] Y ⟨λ_ _ _ Z hl _=>qG (m:=j) df Y (aG Z (mo 0 Y)) (by first | rfl | (rw[length_map];exact ay)) (hl.D 0 57 Y Y) (hl.D 1 58 Y Y) Z,U⟩ ?_))
     exact tw (jr (congrArg (λz'=>OB.row (dB v j) 162 2 ((z').map aS)) (show(rs.take j)=(fL ps ps.length)from by first | exact ze oz | exact(tp.trans (by congr 1;omega)) | exact zd oz ah bh))) (aX (λa w h=>dx  (m:=0) (dB v j) Y h Y Y))
   ·have e3:¬ G ps k=G ps (k-1):=λe=>by simp[e]at aD
    refine ak (nx (aT tb V [0,1002] [_,.int (k+1:Nat),_] [1] U2 Y ⟨aM,U⟩ ?_))
    exact br (k+1) [0,1] ⟨oz,oz,LU oz bh e3⟩
  ·refine aW (nx (aj tb V [1001] U2 [_] ?_))
   exact tw (jr (congrArg (λz'=>OB.row v 162 2 ((z').map aS)) (show ps=(fL ps ps.length)from by first | exact ze oz | exact(tp.trans (by congr 1;omega)) | exact zd oz ah bh))) (aX (λa w h=>dx  (m:=0) v Y h Y Y))
theorem S4 {J:WP} (V:aR J) (xs:List Pr) (p:Pr) (f:FuncId) (caps:List AV) (hf:∀ x' y',cD prog J f [] ([.agg (aS (x')),.agg (aS (y'))]++caps) (.int (iL x' y'))) (hk0:dy prog f) (hs:jf xs) (hn:xs.length<=4000000000000000000):Fn prog J 122 [.rd (bM xs),.agg (aS p),.fn f caps] (.bF [.int (vy xs p:Nat),.bool (decide (p∈xs))]):=by
 refine fE func122 λS w0 hS hJ0=>?_
 clear hJ0
 refine ln 0 λ_=>?_
 refine aJ tb V [0,2,1000] [.ptr (aS p),_,_] [0] U3 Y ⟨d9 hS V,U⟩ ?_
 refine aJ tb V [0,1,2,1002] [_,.int (xs.length:Nat),_] [1] U4 Y ⟨aC fQ,U⟩ ?_
 refine qs tb V [0,1,2,3,1001,1002] U3 U6 ?_
 refine af (ax (lp (ι:=Nat×Nat) (λ(i,j)=>(i<=j)/\(j<=xs.length)/\(∀ k,k<i->cI (G xs k) p=true)/\(∀ k,j<=k->k<xs.length->cI (G xs k) p=false)) (λ(i,j)=>[(9,.int (i:Nat)),(10,.int (j:Nat))]) (λ(i,j)=>j-i) (r6 []) U4 (0,xs.length) ⟨aI,Nat.le_refl _,λk hk=>by omega,λk hk hl=>by omega⟩ ?_))
 rintro⟨i,j⟩ ⟨aQ,ah,bh,ic⟩
 refine af (qs tb V (r6 [1002]) U3 U7 ?_)
 refine cj 6 ?_ ?_<;>intro hb1<;>try simp at hb1
 ·refine ak (nx (ax (aJ tb V (r6 [1006]) [_,_,.int (i+j:Nat),.rd (.lit (.int .u64 (((i+j):Nat):Int))),.rd (.lit (.int .u64 ((((i+j)/2):Nat):Int))),.int (((i+j)/2):Nat),_] [2,3,4,5] U7 Y ⟨aM,λ_ _ _ Z hl _=>Up (k:=(i+j)) yi Jn Y (hl.D 2 20 Y Y) ay Z,λ_ _ _ Z hl _=>Ub (k:=(i+j)) Y (hl.D 3 21 Y Y) (Rel.aH (.int .u64 1)) Z,λ_ _ _ Z hl _=>Uj (k:=((i+j)/2)) Jn yi Y (hl.D 4 22 Y Y) ay Z,U⟩ ?_)))
  refine aJ tb V (r7 [1007]) (V3 [.ptr (aS (G xs ((i+j)/2))),_,_,.int (iL (G xs ((i+j)/2)) p),_]) [3,6] U8 Y ⟨bq df,λ_ _ hk Z hl _=>iE (hf (G xs ((i+j)/2)) p) hk0 Y (hl.D 0 24 Y Y) (nm hS hk) (Z) b8 (aq (hl.D 4 28 Y Y) (aq (hl.D 5 29 Y Y) aN)) (js V Z),U⟩ ?_
  refine cj 7 ?_ ?_<;>intro hb2<;>try simp at hb2
  ·refine dK tb V [0,1,2,3,5,1002] [_,.int (((i+j)/2)+1:Nat),_] [1] U6 Y ⟨aM,U⟩ ?_
   exact dM (((i+j)/2)+1,j) [0,1,2,3,5,4] ⟨oz,oz,KA hs oz hb2,ic⟩
  ·refine qp tb V (r5 [1001]) U2 U6 ?_
   exact dM (i,((i+j)/2)) (r6 []) ⟨oz,oz,bh,Kx hs oz⟩
 ·refine aW (nx (aJ tb V [1014,1015] (V8 [.ptr (aS (G xs i)),_,_,.int (iL (G xs i) p),_,_,_,_]) [8,11] U2 Y ⟨cT df (hk:=λ(aF:((decide ((i:Int)< (xs.length:Int)))==true)=true)=>by(try simp at aF);first | omega | (simp;omega) | grind[aE]),λ_ _ hk Z hl hc=>iE (hf (G xs i) p) hk0 Y (hl.D 5 40 Y hc) (nm hS hk) (Z) b8 (aq (hl.D 9 44 Y hc) (aq (hl.D 10 45 Y hc) aN)) (js V Z),U⟩ ?_))
  exact aX (λa w h=>di (m:=0) (k:=1) Y h Y Y (eI (by rw[Kz (p:=p) oz oz bh ic])) (eB (Kw hs oz bh ic)))
def OB.obj (l:Nat) (o:Obj):OB where
 blk:=λk=>k=l
 inv:=λlo _ w=>lo<=l/\l<w.heap.size/\w.heap[l]?=some o
 mv:=λ⟨h1,h2,h3⟩ hk hb _=>⟨h1,by have:=hk.size;omega,(hk.block _ h2 (hb _ rfl)).trans h3⟩
 lt:=λ⟨h1,h2,_⟩ k hk=>by subst hk;exact⟨h1,h2⟩
section
variable {P:Program} {J:WP} {S:Nat->Prop} {O:List OB} {w0 w:World}
theorem sD {l:Nat} {o:Obj} (o':Obj) (V:aR J) (hJ0:J w0) (hk:Keeps All w0 w) (Z:XO J S w0.heap.size (OB.obj l o::O) w):dc J S w0 (OB.obj l o::O) w (OB.obj l o'::O) (w.putObj l o'):=by
 obtain⟨h1,h2,h3⟩:=Z.2.1 (OB.obj l o) yz
 have hk':Keeps All w0 (w.putObj l o'):=hk.putObj (λhlt=>by omega) o'
 have hkk:Keeps (λb=>¬ (OB.obj l o).blk b) w (w.putObj l o'):=(Keeps.refl _ _).putObj (λ_ hn=>hn rfl) o'
 obtain⟨g1,g2⟩:=uY (o':=OB.obj l o') Z (V _ _ hk' hJ0) hkk (λk hk=>.inl hk) ⟨h1,by simpa using h2,World.putObj_heap_same h2⟩
 exact⟨hk',g1,λav u hr=>Rel.move hkk g2 hr⟩
theorem JC {o:OB} (h:XO J S w0.heap.size (o::O) w):XO J S w0.heap.size O w:=
 ⟨h.1,λp hp=>OB.sub (h.2.1 p (List.mem_cons_of_mem _ hp)) λ_ _ hk=>hk.drop,(List.pairwise_cons.1 h.2.2).2⟩
def uI {κ μ σ:Type} (J:WP) (S:Nat->Prop) (w0:World) (I':κ->List OB) (pv:μ->Value) (O3:μ->List OB) (O4:σ->List OB) (R:List OB):Exit->Act->WP
 | .normal,_,w=>∃ k,Keeps All w0 w/\XO J S w0.heap.size (I' k++R) w
 | .ret,_,w=>∃ s,Keeps All w0 w/\XO J S w0.heap.size (O4 s++R) w
 | .panic ch,a,w=>∃ q,ch=eY (pv q)/\a.defers=[]/\Keeps All w0 w/\XO J S w0.heap.size (O3 q++R) w
 | _,_,_=>False
def uH {κ μ σ:Type} (J:WP) (S:Nat->Prop) (w0:World) (I':κ->List OB) (pv:μ->Value) (O3:μ->List OB) (O4:σ->List OB) (R:List OB) (e:Ending) (w:World):Prop:=
 (e= .returned (.bool true)/\∃ k,Keeps All w0 w/\XO J S w0.heap.size (I' k++R) w)∨(e= .returned (.bool false)/\∃ s,Keeps All w0 w/\XO J S w0.heap.size (O4 s++R) w)∨(∃ q,e= .panicked (eY (pv q))/\Keeps All w0 w/\XO J S w0.heap.size (O3 q++R) w)
def qL {κ μ σ:Type} (J:WP) (S:Nat->Prop) (w0:World) (I':κ->List OB) (pv:μ->Value) (O3:μ->List OB) (O4:σ->List OB) (R:List OB) (fl:Option Value) (e:Ending) (w:World):Prop:=
 (fl=none/\∃ v k,e= .returned v/\Keeps All w0 w/\XO J S w0.heap.size (I' k++R) w)∨
 (∃ v k,fl=some v/\e= .panicked (eY v)/\Keeps All w0 w/\XO J S w0.heap.size (I' k++R) w)∨
 (∃ v s,e= .returned v/\Keeps All w0 w/\XO J S w0.heap.size (O4 s++R) w)∨
 (∃ q,e= .panicked (eY (pv q))/\Keeps All w0 w/\XO J S w0.heap.size (O3 q++R) w)
def my {α:Type} (P:Program) (J:WP) (g:FuncId) (Hs:List OB) (eD:List AV) (am:α->List AV) (xs:List α) (fl:Option Value):Prop:=
 ∀(S:Nat->Prop) (w0:World) (R:List OB) (w:World) (l n:Nat) (us:List Value) (κ μ σ:Type) (I:List α->κ->List OB) (pv:μ->Value) (O3:μ->List OB) (O4:σ->List OB) (k0:κ),
  (∀ b,w0.heap.size<=b->S b)->J w0->Has Hs S w0->Keeps All w0 w->XO J S w0.heap.size (I [] k0++R) w->bi (SO S (I [] k0++R)) w eD us->
  (∀(m:Nat) (R':List OB) (pre:List α) (x:α) (k:κ) (w1:World) (vs:List Value),(pre++[x])<+:xs->Keeps All w0 w1->XO J S w0.heap.size (I pre k++R') w1->bi (SO S (I pre k++R')) w1 (am x) vs->YieldAt Fence.wide m P l vs.toArray w1 (uH J S w0 (I (pre++[x])) pv O3 O4 R'))->
  CallsIn Fence.wide n P g (#[.func (.yield l) #[] #[]]++us.toArray) w (qL J S w0 (I xs) pv O3 O4 R fl)
end
section
variable {n:Rn} {N:Nat} {P:Program} {J:WP} {S:Nat->Prop} {O:List OB} {w0:World} {env:List (Nat×AV)} {Q:Exit->Act->WP}
theorem B5 {κ μ σ:Type} {ops:Array Oper} {o:Oper} {rest:List Oper} {R:List OB} {d l:Nat} {xs:List Operand} {callee:Operand} {ts:Array TypeId} {bv:List AV} {I':κ->List OB} {pv:μ->Value} {O3:μ->List OB} {O4:σ->List OB} (hr:n.r=none) (hg:o.guard=none) (hop:o.op= .call { callee:=.value callee,args:=xs.toArray,argTypes:=ts }) (hd:o.dst=some d) (hN:d<N)
 (hc:∀ a w,So J S w0 N (O++R) env a w->a.eval callee= .func (.yield l) #[] #[]) (hv:∀ a w,So J S w0 N (O++R) env a w->bi (SO S (O++R)) w bv (xs.map a.eval))
 (hY:∀(m:Nat) (R':List OB) (w1:World) (vs:List Value),Keeps All w0 w1->XO J S w0.heap.size (O++R') w1->bi (SO S (O++R')) w1 bv vs->YieldAt Fence.wide m P l vs.toArray w1 (uH J S w0 I' pv O3 O4 R'))
 (od:∀ q a w,So J S w0 N (O3 q++R) env a w->Q (.panic (eY (pv q))) a w)
 (stop:∀ s a w,So J S w0 N (O4 s++R) ((d,.bool false)::dP d env) a w->wpListIn n.F n.d P ops Q rest a w)
 (next:∀ k a w,So J S w0 N (I' k++R) ((d,.bool true)::dP d env) a w->wpListIn n.F n.d P ops Q rest a w):
 ∀ a w,So J S w0 N (O++R) env a w->wpListIn n.F n.d P ops Q (o::rest) a w:=λa w h=>by
 obtain⟨nd,nr⟩:=n
 subst hr
 refine wpListIn_plain hg λK' hK=>?_
 let B:AV->Value->Prop:=λav v=>Rel (SO S (O++R)) w av v
 have hx2:=uZ (B:=B) h.x λ_ _ h=>h
 obtain⟨fn,tmps,assign,body,hy,hR⟩:=hY (nd-1) (OB.was B::R) w (xs.map a.eval) h.keep hx2 ((hv a w h).sub λk _ hs=>qP.2 hs)
 have hrun:(execOp a.eval o).run P w= .ok (.round l fn tmps assign body) w:=by
  simp only[execOp,hop,resolve,hc a w h,Deferred.ofValue,Sem.run_bind,Sem.run_pure,Result.andThen_ok,invoke]
  simpa using hy
 refine⟨λ_ _=>trivial,?_⟩
 show o.uponIn _ nd P a K' Q ((o.semAt none a.eval).run P w)
 rw[Oper.semAt_none,hrun]
 refine⟨λh=>by simp[Rn.F,Fence.wide]at h,RoundIn.mono hR λe w' he=>?_⟩
 rcases he with⟨rfl,k,hk',hx'⟩ | ⟨rfl,s,hk',hx'⟩ | ⟨q,rfl,hk',hx'⟩
 ·obtain⟨g1,g2⟩:=q9 hx'
  rw[hd]
  exact hK _ _ (next k _ _ (h.step ⟨hk',g1,g2⟩ hN (Rel.aH _)))
 ·obtain⟨g1,g2⟩:=q9 hx'
  rw[hd]
  exact hK _ _ (stop s _ _ (h.step ⟨hk',g1,g2⟩ hN (Rel.aH _)))
 ·obtain⟨g1,g2⟩:=q9 hx'
  exact od q _ _ (h.step0 ⟨hk',g1,g2⟩ undef)

def Code.gj (fid:FuncId) (P:Program) (c:Code) (Q:Exit->Act->WP) (a:Act) (w:World):Prop:=
 ∀(b:Frame) (k:List Item) (cs:List Frame),b.roundOf=none->b.fn=fid->
  ∃ e a' w',Q e a' w'/\ArrivesIn (Machine.fenced P Fence.wide) P (lone (b.atR a (.code c::k)) cs w) b k cs e a' w'
variable {fid:FuncId} {a:Act} {w:World}
theorem lM (k:Nat):Fence.wide.room k:=λ_ hd=>by simp[Fence.wide]at hd
theorem yI {m:Nat} {c:Code} (h:c.wpIn Fence.wide m P Q a w):Code.gj fid P c Q a w:=λb k cs hr _=>h b k cs hr trivial (lM _)
theorem vn {x y:Code} (h:Code.gj fid P x (Exit.then (Code.gj fid P y Q) Q) a w):Code.gj fid P (.seq x y) Q a w:=by
 intro b k cs hro hb
 have h0:(lone (b.atR a (.code (.seq x y)::k)) cs w).fenced P Fence.wide:=fenced_calm (n:=0) trivial (lM _) rfl
 obtain⟨e,a₁,w₁,hq,harr⟩:=h b (.code y::k) cs hro hb
 cases e with
 | normal=>
  obtain⟨e₂,a₂,w₂,hq₂,harr₂⟩:=hq b k cs hro hb
  exact⟨e₂,a₂,w₂,hq₂,.of_steps (.head h0 stepR_seq harr) harr₂⟩
 | exit id=>exact⟨_,a₁,w₁,hq,.of_steps (.one h0 stepR_seq) (.pass (x:=.code y) rfl (λ_ _=>.inl yz) harr)⟩
 | goto l=>exact⟨_,a₁,w₁,hq,.of_steps (.one h0 stepR_seq) (.pass (x:=.code y) rfl (λ_ _=>.inl yz) harr)⟩
 | ret=>exact⟨_,a₁,w₁,hq,.of_steps (.one h0 stepR_seq) (.pass (x:=.code y) rfl (λ_ _=>.inl yz) harr)⟩
 | panic ch=>exact⟨_,a₁,w₁,hq,.of_steps (.one h0 stepR_seq) (.pass (x:=.code y) rfl (λ_ _=>.inl yz) harr)⟩
 | outgrown=>exact⟨_,a₁,w₁,hq,.of_steps (.one h0 stepR_seq) (.pass (x:=.code y) rfl (λ_ _=>.inl yz) harr)⟩
theorem DA {f:FuncId} {fn:Func} {c:Code} {args:Array Value} {R:Ending->WP} (hf:P.funcs[f]?=some fn) (hb:fn.body=some c)
 (h:Code.gj f P c (bodyPostM Fence.wide 5 P fn R) { tmps:=args++Array.replicate (fn.ntmps-args.size) undef,defers:=[] } w):Calls P f args w R:=by
 refine(callsIn_wide (n:=5)).1 ⟨trivial,λcs hr=>?_⟩
 let b:Frame:= { (default:Frame)with fn:=f,kind:=.normal,roundOf:=none }
 have henter:Frame.enter P f args .normal=
  b.atR { tmps:=args++Array.replicate (fn.ntmps-args.size) undef,defers:=[] } [.code c]:=by
  simp[Frame.enter,Frame.atR,hf,hb,b]
 obtain⟨e,a',w',hq,harr⟩:=h b [] cs rfl rfl
 rw[<-henter]at harr
 have hF:Fence.wide.fn f:=trivial
 cases e with
 | normal=>
  obtain⟨e',w'',fr',hR,hs,hfn,hl⟩:=leaves_stepsInM a'.defers .returning w' { b.atR a' []with mode:=.returning } cs rfl rfl rfl hf rfl hF hr hq
  exact⟨e',w'',fr',hR,ComesIn.of_steps (StepsIn.trans harr (.one (fenced_calm (fr:=b.atR a' []) hF hr rfl) (stepR_end rfl))) hs,hfn,hl⟩
 | ret=>
  obtain⟨todo,hs₀⟩:=harr.1 rfl
  obtain⟨e',w'',fr',hR,hs,hfn,hl⟩:=leaves_stepsInM a'.defers .returning w' { b.atR a' todo with mode:=.returning } cs rfl rfl rfl hf rfl hF hr hq
  exact⟨e',w'',fr',hR,ComesIn.of_steps hs₀ hs,hfn,hl⟩
 | panic chain=>
  obtain⟨todo,hs₀⟩:=harr
  obtain⟨e',w'',fr',hR,hs,hfn,hl⟩:=leaves_stepsInM a'.defers (.panicking chain) w' { b.atR a' todo with mode:=.panicking chain } cs rfl rfl rfl hf rfl hF hr hq
  exact⟨e',w'',fr',hR,ComesIn.of_steps hs₀ hs,hfn,hl⟩
 | exit id=>exact hq.elim
 | goto l=>exact hq.elim
 | outgrown=>exact⟨.outgrown,w',b,hq,harr.resolve_left (by simp[b]),rfl,trivial⟩
theorem Sa {fn:Func} {R:Ending->WP} {v:Value} (hd:a.defers=[]) (hr:(results fn a.tmps).run P w= .ok v w) (h:R (.returned v) w):bodyPostM Fence.wide 5 P fn R .ret a w:=by
 show LeavesInM Fence.wide 5 P fn a.tmps R a.defers .returning w
 rw[hd];exact⟨v,hr,h⟩
theorem Sb {fn:Func} {R:Ending->WP} {v:Value} {D:Nat} (hd:a.defers=[{ target:=.collected D,args:= #[] }]) (hD:w.heap[D]?=some (.deferred (some []))) (hr:(results fn a.tmps).run P (w.putObj D (.deferred none))= .ok v (w.putObj D (.deferred none))) (h:R (.returned v) (w.putObj D (.deferred none))):bodyPostM Fence.wide 5 P fn R .normal a w:=by
 show LeavesInM Fence.wide 5 P fn a.tmps R a.defers .returning w
 rw[hd];exact⟨by simp,.inl ⟨D,_,rfl,run_takeDeferred hD,⟨v,hr,h⟩⟩⟩
theorem J8 {m:Nat} {g:Operand} {ps:Array Tmp} {assign body:Code}
 (h:∃(l:Nat) (mark:List Deferred) (w₁:World) (d:Deferred) (w₁':World) (f:FuncId) (args:Array Value) (w₂:World),
  (Instr.enterLoop fid a.tmps ps assign body none).run P w= .ok (l,mark) w₁/\
  (resolve a.eval (rangeCall g l) 0).run P w₁= .ok d w₁'/\
  (invoke d.target d.args).run P w₁'= .ok (.enter f args) w₂/\
  CallsIn Fence.wide m P f args w₂ (rangePost Fence.wide m P l Q { a with defers:=mark++a.defers })):
 Code.gj fid P (.rangeFunc g ps assign body) Q a w:=by
 intro b k cs hro hb
 obtain⟨l,mark,w₁,d,w₁',f,args,w₂,he,hres,hinv,hF,hcall⟩:=h
 subst hb
 rw[<-hro]at he
 have h0:(lone (b.atR a (.code (.rangeFunc g ps assign body)::k)) cs w).fenced P Fence.wide:=
  fenced_lone (.inl trivial) (λf' _=>trivial) (lM _)
 have henter:=stepR_rangeFunc (P:=P) (b:=b) (a:=a) (k:=k) (cs:=cs) (w:=w) he hres hinv
 obtain⟨e,w₃,fr,hR,hsteps,hfn,hleave⟩:=hcall (b.atR { a with defers:=mark++a.defers } (.inRangeFunc l::k)::cs) (lM _)
 cases e with
 | outgrown=>
  obtain⟨a₀,w₀,hq⟩:=hR
  exact⟨.outgrown,a₀,w₀,hq,.inr (Outgrown.of_steps (.one henter) hsteps)⟩
 | returned v=>
  have hl:(lone fr (b.atR { a with defers:=mark++a.defers } (.inRangeFunc l::k)::cs) w₃).fenced P Fence.wide:=fenced_leaving (n:=m) trivial (lM _) hleave
  obtain⟨jump,w₄,hend,hj⟩:=hR
  have sback:StepsIn (Machine.fenced P Fence.wide) P (lone (b.atR a (.code (.rangeFunc g ps assign body)::k)) cs w) (lone (b.atR { a with defers:=mark++a.defers } ((jump.map Item.code).toList++k)) cs w₄):=by
   refine .head h0 henter (StepsIn.trans hsteps (.head hl ?_ (.one (fenced_calm (n:=m) (fr:=b.atR { a with defers:=mark++a.defers } (.endRangeFunc l::k)) trivial (lM _) rfl) (stepR_endRangeFunc hend))))
   rw[<-finish_atR_inRangeFunc l v];exact step_leave_returned hleave
  cases jump with
  | none=>exact⟨.normal,_,w₄,hj,sback⟩
  | some c=>
   obtain⟨e',a'',w₅,hq,harr⟩:=hj b k cs hro trivial (lM _)
   exact⟨e',a'',w₅,hq,.of_steps sback harr⟩
 | panicked chain=>
  have hl:(lone fr (b.atR { a with defers:=mark++a.defers } (.inRangeFunc l::k)::cs) w₃).fenced P Fence.wide:=fenced_leaving (n:=m) trivial (lM _) hleave
  refine⟨.panic chain,_,w₃,hR,.inRangeFunc l::k,.head h0 henter (StepsIn.trans hsteps (.one hl ?_))⟩
  rw[<-Frame.raise_atR];exact step_leave_panicked hleave
theorem nj {A R:List OB} {b c:OB}:((A++[b,c])++R).Perm (c::(A++b::R)):=by
 have:=perm_middle (l₁:=A++[b]) (l₂:=R) (a:=c)
 simpa using this
theorem oe {A R:List OB} {c:OB}:(c::(A++R)).Perm (A++c::R):=perm_middle.symm
theorem qz {lo l:Nat} {o:Obj} (h:XO J S lo O w) (ho:OB.obj l o∈O):l<w.heap.size/\w.heap[l]?=some o:=by
 obtain⟨_,h2,h3⟩:=h.2.1 _ ho
 exact⟨h2,h3⟩
theorem JA {lo:Nat} {B:AV->Value->Prop} (h:XO J S lo O w) (ho:OB.was B∈O):∀ av v,B av v->Rel (SO S O) w av v:=h.2.1 _ ho
def phi (ds:List Deferred) (a:Act):Act:= { a with defers:=a.defers++ds }
abbrev kG (Ds:List Nat):List Deferred:=Ds.map λD=> { target:=.collected D,args:= #[] }
abbrev jp (D:Nat):List Deferred:=[{ target:=.collected D,args:= #[] }]
abbrev OB.fM (D:Nat):OB:=OB.obj D (.deferred (some []))
def OB.mO (p:Prop):OB where
 blk:=λ_=>False
 inv:=λ_ _ _=>p
 mv:=λh _ _ _=>h
 lt:=λ_ _ h=>h.elim
def om (A:Array Value) (ps:Array Tmp) (vs:Array Value):Array Value:=(ps.zip vs).foldl (λ(t:Array Value) (q:Tmp×Value)=>match q with | (t',v)=>t.setIfInBounds t' v) A
theorem Ve (A:Array Value) (ps:Array Tmp) (vs:Array Value):(om A ps vs).size=A.size:=by
 unfold om
 refine Array.foldl_induction (motive:=λ_ (t:Array Value)=>t.size=A.size) rfl λi t h=>?_
 simpa using h
theorem Iz {A:Array Value} {p:Tmp} {v:Value}:om A #[p] [v].toArray=A.setIfInBounds p v:=by simp[om]
theorem Vf {A:Array Value} {p p2:Tmp} {v v2:Value}:om A #[p,p2] [v,v2].toArray=(A.setIfInBounds p v).setIfInBounds p2 v2:=by simp[om]
theorem Im {T:Nat->Prop} {w:World}:∀ {l:List AV} {us:List Value},bi T w l us->us.length=l.length
 | [],us,h=>by simp only[bi]at h;subst h;rfl
 | a::l,us,h=>by simp only[bi]at h;obtain⟨u,us',rfl,_,h⟩:=h;simp[Im h]
theorem Io {T:Nat->Prop} {w:World} {a:AV} {us:List Value} (h:bi T w [a] us):∃ v,Rel T w a v/\us=[v]:=by
 simp only[bi]at h;obtain⟨u,us',rfl,h1,rfl⟩:=h;exact⟨u,h1,rfl⟩
theorem UG {T:Nat->Prop} {w:World} {a b:AV} {us:List Value} (h:bi T w [a,b] us):∃ v v2,Rel T w a v/\Rel T w b v2/\us=[v,v2]:=by
 simp only[bi]at h;obtain⟨u,us',rfl,h1,u2,eP,rfl,h2,rfl⟩:=h;exact⟨u,u2,h1,h2,rfl⟩
theorem xO {T:Nat->Prop} {w:World} {A:Array Value} {p:Tmp} {v:Value} {av:AV} {env:List (Nat×AV)} (hA:A.size=N) (hp:p<N) (hv:Rel T w av v) (he:∀ q∈env,q.1<N/\Rel T w q.2 (A.getD q.1 undef)):
 ∀ q∈(p,av)::dP p env,q.1<N/\Rel T w q.2 ((A.setIfInBounds p v).getD q.1 undef):=λq hq=>by
 rcases mem_cons.1 hq with rfl | hq
 ·refine⟨hp,?_⟩
  have e:(A.setIfInBounds p v).getD p undef=v:=by rw[Array.getD_eq_getD_getElem?,Array.getElem?_setIfInBounds];simp[hA,hp]
  show Rel T w av ((A.setIfInBounds p v).getD p undef)
  rw[e];exact hv
 ·obtain⟨hq1,hq2⟩:=List.mem_filter.1 hq
  have hne:¬ p=q.1:=λe=>by simp[e]at hq2
  have e:(A.setIfInBounds p v).getD q.1 undef=A.getD q.1 undef:=by rw[Array.getD_eq_getD_getElem?,Array.getD_eq_getD_getElem?,Array.getElem?_setIfInBounds,if_neg hne]
  rw[e];exact he q hq1
theorem Ia {α κ μ σ:Type} {m:Nat} {ds:List Deferred} {g:Operand} {ps:Array Tmp} {assign body:Code} {gf:FuncId} {eD:List AV} {am:α->List AV} {xs:List α} {fl:Option Value} {Hs R:List OB} (hseq:my P J gf Hs eD am xs fl) (eg:dy P gf)
 (V:aR J) (hS:∀ b,w0.heap.size<=b->S b) (hJ0:J w0) (hH:Has Hs S w0) (I:List α->κ->List OB) (pv:μ->Value) (O3:μ->List OB) (O4:σ->List OB) (k0:κ) (p8 env':α->List (Nat×AV)) (hl:∀ x,(am x).length=ps.size)
 (hset:∀(T:Nat->Prop) (w:World) (x:α) (vs:List Value) (A:Array Value),A.size=N->bi T w (am x) vs->(∀ q∈env,q.1<N/\Rel T w q.2 (A.getD q.1 undef))->∀ q∈p8 x,q.1<N/\Rel T w q.2 ((om A ps vs.toArray).getD q.1 undef)) {mR:Func} (nY:P.funcs[fid]?=some mR)
 (hg:∀ a w,So J S w0 N (I [] k0++R) env a w->∃ cap:List Value,a.eval g= .func (.func gf) #[] cap.toArray/\bi (SO S (I [] k0++R)) w eD cap)
 (hassign:∀(m l:Nat) (R':List OB) (pre:List α) (x:α) (k:κ) (K:Act->WP),(∀ a w,So J S w0 N (I pre k++R') (env' x) a w->K a w)->
  Tr ⟨m,some l⟩ P (So J S w0 N (I pre k++R') (p8 x)) assign (Exit.then K (λ_ _ _=>False)))
 (hbody:∀(m l:Nat) (R':List OB) (pre:List α) (x:α) (k:κ),(pre++[x])<+:xs->Tr ⟨m,some l⟩ P (So J S w0 N (I pre k++R') (env' x)) body (uI J S w0 (I (pre++[x])) pv O3 O4 R'))
 (hdone:fl=none->∀ k D a w,So J S w0 N (OB.fM D::(I xs k++R)) env a w->Q .normal (phi (jp D++ds) a) w)
 (hstop:∀ s D a w,So J S w0 N (OB.fM D::(O4 s++R)) env a w->Q .ret (phi (jp D++ds) a) w)
 (n3:∀ v,fl=some v->∀ k D a w,So J S w0 N (OB.fM D::(I xs k++R)) env a w->Q (.panic (eY v)) (phi (jp D++ds) a) w)
 (hpq:∀ q D a w,So J S w0 N (OB.fM D::(O3 q++R)) env a w->Q (.panic (eY (pv q))) (phi (jp D++ds) a) w):
 ∀(a:Act) (w:World),So J S w0 N (I [] k0++R) env a w->Code.gj fid P (.rangeFunc g ps assign body) Q (phi ds a) w:=λa w h=>by
 obtain⟨cap,hgv,hcap⟩:=hg a w h
 obtain⟨rec,hrec⟩:∃ rec:LoopState->Option Code->Obj,rec=λst pe=>.loop { state:=st,pending:=pe,fn:=fid,tmps:=a.tmps,params:=ps,assign,body,defers:=w.heap.size }:=⟨_,rfl⟩
 obtain⟨B,hB⟩:∃ B:AV->Value->Prop,∀ av v,B av v↔Rel (SO S (I [] k0++R)) w av v:=⟨_,λ_ _=>.rfl⟩
 have hx1:=uZ (B:=B) h.x λ_ _ h=>(hB _ _).1 h
 have hka:Keeps All w (w.alloc (.deferred (some []))):=(Keeps.refl _ _).alloc _
 have hD:(w.alloc (.deferred (some []))).heap[w.heap.size]?=some (.deferred (some [])):=World.alloc_heap_new w _
 obtain⟨hx2,_⟩:=uX (o:=OB.obj w.heap.size (.deferred (some []))) V hx1 hka (λk hk=>Nat.le_of_eq hk.symm) ⟨h.keep.size,by simp,hD⟩
 have hkb:Keeps All (w.alloc (.deferred (some []))) ((w.alloc (.deferred (some []))).alloc (rec .ready none)):=(Keeps.refl _ _).alloc _
 have hL:=World.alloc_heap_new (w.alloc (.deferred (some []))) (rec .ready none)
 rw[World.size_alloc]at hL
 obtain⟨hx3,_⟩:=uX (o:=OB.obj (w.heap.size+1) (rec .ready none)) V hx2 hkb (λk hk=>by rw[World.size_alloc];exact Nat.le_of_eq hk.symm) ⟨by have:=h.keep.size;omega,by simp,hL⟩
 obtain⟨W1,hW1⟩:∃ W1,(w.alloc (.deferred (some []))).alloc (rec .ready none)=W1:=⟨_,rfl⟩
 rw[hW1]at hx3 hkb
 have Fm:Keeps All w W1:=hka.trans hkb
 let I':List α->κ->List OB:=λpre k=>I pre k++[OB.was B,OB.obj (w.heap.size+1) (rec .ready none)]
 let CK:σ->List OB:=λs=>O4 s++[OB.was B,OB.obj (w.heap.size+1) (rec .done (some .ret))]
 let CJ:μ->List OB:=λq=>O3 q++[OB.was B,OB.obj (w.heap.size+1) (rec .busy none)]
 have hx4:XO J S w0.heap.size (I' [] k0++OB.obj w.heap.size (.deferred (some []))::R) W1:=by
  refine fR ?_ hx3
  refine List.Perm.trans (List.Perm.cons _ ?_) nj.symm
  have:=perm_middle (l₁:=I [] k0++[OB.was B]) (l₂:=R) (a:=OB.obj w.heap.size (.deferred (some [])))
  simpa using this.symm
 have hsub:∀ k,k<w.heap.size->SO S (I [] k0++R) k->All k/\SO S (I' [] k0++OB.obj w.heap.size (.deferred (some []))::R) k:=λk hlt hs=>⟨trivial,hs.1,λp hp=>by
  simp only[I',List.mem_append,mem_cons,List.not_mem_nil,or_false]at hp
  rcases hp with(hp | rfl | rfl) | rfl | hp
  ·exact hs.2 p (by simp[hp])
  ·exact λe=>e
  ·exact λe=>by change k=_ at e;omega
  ·exact λe=>by change k=_ at e;omega
  ·exact hs.2 p (by simp[hp])⟩
 refine J8 (m:=m) ⟨w.heap.size+1,[{ target:=.collected w.heap.size,args:= #[] }],W1, { target:=.fn (.func gf) cap.toArray,args:= #[.func (.yield (w.heap.size+1)) #[] #[]] },W1,gf,
  #[.func (.yield (w.heap.size+1)) #[] #[]]++cap.toArray,W1,?_,?_,?_,?_⟩
 ·rw[<-hW1,hrec];exact run_enterLoop_outer _ _ _ _ _
 ·show(resolve a.eval (rangeCall g (w.heap.size+1)) 0).run P W1=_
  simp only[resolve,hgv]
  simp[go_sem]
 ·have:=eg (#[.func (.yield (w.heap.size+1)) #[] #[]]++cap.toArray) W1
  simpa [invoke,go_sem]using this
 have hend:∀(A:List OB) (st:LoopState) (pe:Option Code) (w2:World),Keeps All w0 w2->XO J S w0.heap.size (OB.obj (w.heap.size+1) (rec st pe)::(A++OB.was B::OB.obj w.heap.size (.deferred (some []))::R)) w2->
  So J S w0 N (OB.obj w.heap.size (.deferred (some []))::(A++R)) env a w2:=λA st pe w2 hk Z=>by
  have hx':=fR (O':=OB.was B::(OB.obj w.heap.size (.deferred (some []))::(A++R))) (List.Perm.trans perm_middle (List.Perm.cons _ perm_middle)) (JC Z)
  refine⟨h.defs,h.size,hk,JC hx',λp hp=>⟨(h.env p hp).1,?_⟩⟩
  exact(JA hx' yz p.2 _ ((hB _ _).2 (h.env p hp).2)).sub λk _ hs=>hs.drop
 refine(hseq S w0 _ W1 (w.heap.size+1) m cap κ μ σ I' pv CJ CK k0 hS hJ0 hH (h.keep.trans Fm) hx4 (bi.move Fm hsub hcap) ?_).mono ?_
 ·intro m' R' pre x k w1 vs hpre hk1 PQ qm
  have gp:=fR nj PQ
  obtain⟨hlt,hl'⟩:=qz (l:=w.heap.size+1) (o:=rec .ready none) gp yz
  rw[hrec]at hl'
  have hy:=run_yield (P:=P) (args:=vs.toArray) hl' (by simp[Im qm,hl x])
  have FI:=fR oe gp
  have hrow:(So J S w0 N (I pre k++OB.obj (w.heap.size+1) (rec .ready none)::OB.was B::R') (p8 x)) { tmps:=om a.tmps ps vs.toArray,defers:=[] } w1:=by
   refine⟨rfl,(Ve _ _ _).trans h.size,hk1,FI,hset _ _ x vs a.tmps h.size (qm.sub λk' _ hs=>(hs.perm nj).perm oe) λq hq=>⟨(h.env q hq).1,JA FI yz q.2 _ ((hB _ _).2 (h.env q hq).2)⟩⟩
  have hrest:∀ a1 wa,So J S w0 N (I pre k++OB.obj (w.heap.size+1) (rec .ready none)::OB.was B::R') (env' x) a1 wa->
   ∃ w₂,(Instr.beginRound (w.heap.size+1)).run P wa= .ok () w₂/\body.wpIn (Fence.wide.inRound (w.heap.size+1)) m' P (It P (w.heap.size+1) (uH J S w0 (I' (pre++[x])) pv CJ CK R')) a1 w₂:=by
   intro a1 wa ha1
   have Fw:=fR oe.symm ha1.x
   obtain⟨XS,hla⟩:=qz (l:=w.heap.size+1) (o:=rec .ready none) Fw yz
   have OO:(Instr.beginRound (w.heap.size+1)).run P wa= .ok () (wa.putObj (w.heap.size+1) (rec .busy none)):=by rw[hrec]at hla ⊢;exact run_beginRound hla rfl
   refine⟨_,OO,?_⟩
   obtain⟨hk2,hx2,hm2⟩:=sD (rec .busy none) V hJ0 ha1.keep Fw
   have PO:=fR oe hx2
   have hsp:∀(o:OB) (k':Nat),SO S (I pre k++o::OB.was B::R') k'->SO S (o::(I pre k++OB.was B::R')) k':=λo k' hs=>hs.perm oe.symm
   refine wpIn_mono (hbody m' (w.heap.size+1) _ pre x k hpre _ _ ⟨ha1.defs,ha1.size,hk2,PO,λq hq=>⟨(ha1.env q hq).1,(hm2 _ _ ((ha1.env q hq).2.sub λk' _ hs=>hsp _ k' hs)).sub λk' _ hs=>hs.perm oe⟩⟩) λe a3 w3 he=>?_
   cases e with
   | normal=>
    obtain⟨k',hk3,hx3⟩:=he
    have tZ:=fR oe.symm hx3
    obtain⟨hlt3,hl3⟩:=qz (l:=w.heap.size+1) (o:=rec .busy none) tZ yz
    obtain⟨hk4,hx4,_⟩:=sD (rec .ready none) V hJ0 hk3 tZ
    have hend':(Instr.endRound (w.heap.size+1) none).run P w3= .ok (.bool true) (w3.putObj (w.heap.size+1) (rec .ready none)):=by rw[hrec]at hl3 ⊢;exact run_endRound none hl3
    exact⟨_,_,hend',.inl ⟨rfl,k',hk4,fR nj.symm hx4⟩⟩
   | panic ch=>
    obtain⟨q,rfl,hd,hk3,hx3⟩:=he
    refine⟨hd,.inr (.inr ⟨q,rfl,hk3,?_⟩)⟩
    exact fR (oe.symm.trans nj.symm) hx3
   | ret=>
    obtain⟨s,hk3,hx3⟩:=he
    have tZ:=fR oe.symm hx3
    obtain⟨hlt3,hl3⟩:=qz (l:=w.heap.size+1) (o:=rec .busy none) tZ yz
    obtain⟨hk4,hx4,_⟩:=sD (rec .done (some .ret)) V hJ0 hk3 tZ
    have hend':(Instr.endRound (w.heap.size+1) (some .ret)).run P w3= .ok (.bool false) (w3.putObj (w.heap.size+1) (rec .done (some .ret))):=by rw[hrec]at hl3 ⊢;exact run_endRound (some .ret) hl3
    exact⟨_,_,hend',.inr (.inl ⟨rfl,s,hk4,fR nj.symm hx4⟩)⟩
   | exit id=>exact he.elim
   | goto t=>exact he.elim
   | outgrown=>exact he.elim
  refine⟨fid,_,assign,body,hy,UO trivial ⟨mR,nY⟩ (by
   refine hassign m' (w.heap.size+1) _ pre x k _ ?_ _ _ hrow
   exact hrest)⟩
 ·intro e w2 he
  rcases he with⟨hf,v,k,rfl,hk2,hx2⟩ | ⟨v,k,hf,rfl,hk2,hx2⟩ | ⟨v,s,rfl,hk2,hx2⟩ | ⟨q,rfl,hk2,hx2⟩
  ·have gp:=fR nj hx2
   obtain⟨hlt,hl⟩:=qz (l:=w.heap.size+1) (o:=rec .ready none) gp yz
   obtain⟨hk3,hx3,_⟩:=sD (rec .exhausted none) V hJ0 hk2 gp
   have Ah:(Instr.endLoop (w.heap.size+1)).run P w2= .ok none (w2.putObj (w.heap.size+1) (rec .exhausted none)):=by rw[hrec]at hl ⊢;exact run_endLoop hl yz
   refine⟨none,_,Ah,?_⟩
   have:=hdone hf k w.heap.size _ _ (hend _ _ _ _ hk3 hx3)
   unfold phi at this
   rw[h.defs]at this
   show Q .normal { phi ds a with defers:=_++(a.defers++ds) } _
   rw[h.defs];exact this
  ·have:=n3 v hf k w.heap.size _ _ (hend _ _ _ _ hk2 (fR nj hx2))
   unfold phi at this
   rw[h.defs]at this
   show Q (.panic (eY v)) { phi ds a with defers:=_++(a.defers++ds) } _
   rw[h.defs];exact this
  ·have gp:=fR nj hx2
   obtain⟨hlt,hl⟩:=qz (l:=w.heap.size+1) (o:=rec .done (some .ret)) gp yz
   obtain⟨hk3,hx3,_⟩:=sD (rec .exhausted (some .ret)) V hJ0 hk2 gp
   have Ah:(Instr.endLoop (w.heap.size+1)).run P w2= .ok (some .ret) (w2.putObj (w.heap.size+1) (rec .exhausted (some .ret))):=by rw[hrec]at hl ⊢;exact run_endLoop hl yz
   refine⟨some .ret,_,Ah,?_⟩
   have:=hstop s w.heap.size _ _ (hend _ _ _ _ hk3 hx3)
   refine wpIn_ret ?_
   unfold phi at this
   rw[h.defs]at this
   show Q .ret { phi ds a with defers:=_++(a.defers++ds) } _
   rw[h.defs];exact this
  ·have:=hpq q w.heap.size _ _ (hend _ _ _ _ hk2 (fR nj hx2))
   unfold phi at this
   rw[h.defs]at this
   show Q (.panic (eY (pv q))) { phi ds a with defers:=_++(a.defers++ds) } _
   rw[h.defs];exact this
theorem H9 {α κ μ σ:Type} {m:Nat} {g:Operand} {ps:Array Tmp} {assign body:Code} {gf:FuncId} {eD:List AV} {am:α->List AV} {xs:List α} {fl:Option Value} {Hs R:List OB} (hseq:my P J gf Hs eD am xs fl) (eg:dy P gf)
 (V:aR J) (hS:∀ b,w0.heap.size<=b->S b) (hJ0:J w0) (hH:Has Hs S w0) (I:List α->κ->List OB) (pv:μ->Value) (O3:μ->List OB) (O4:σ->List OB) (k0:κ) (p8 env':α->List (Nat×AV)) (hl:∀ x,(am x).length=ps.size)
 (hset:∀(T:Nat->Prop) (w:World) (x:α) (vs:List Value) (A:Array Value),A.size=N->bi T w (am x) vs->(∀ q∈env,q.1<N/\Rel T w q.2 (A.getD q.1 undef))->∀ q∈p8 x,q.1<N/\Rel T w q.2 ((om A ps vs.toArray).getD q.1 undef)) {mR:Func} (nY:P.funcs[fid]?=some mR)
 (hg:∀ a w,So J S w0 N (I [] k0++R) env a w->∃ cap:List Value,a.eval g= .func (.func gf) #[] cap.toArray/\bi (SO S (I [] k0++R)) w eD cap)
 (hassign:∀(m l:Nat) (R':List OB) (pre:List α) (x:α) (k:κ) (K:Act->WP),(∀ a w,So J S w0 N (I pre k++R') (env' x) a w->K a w)->
  Tr ⟨m,some l⟩ P (So J S w0 N (I pre k++R') (p8 x)) assign (Exit.then K (λ_ _ _=>False)))
 (hbody:∀(m l:Nat) (R':List OB) (pre:List α) (x:α) (k:κ),(pre++[x])<+:xs->Tr ⟨m,some l⟩ P (So J S w0 N (I pre k++R') (env' x)) body (uI J S w0 (I (pre++[x])) pv O3 O4 R'))
 (hdone:fl=none->∀ k D a w,So J S w0 N (OB.fM D::(I xs k++R)) env a w->Q .normal (phi (jp D) a) w)
 (hstop:∀ s D a w,So J S w0 N (OB.fM D::(O4 s++R)) env a w->Q .ret (phi (jp D) a) w)
 (n3:∀ v,fl=some v->∀ k D a w,So J S w0 N (OB.fM D::(I xs k++R)) env a w->Q (.panic (eY v)) (phi (jp D) a) w)
 (hpq:∀ q D a w,So J S w0 N (OB.fM D::(O3 q++R)) env a w->Q (.panic (eY (pv q))) (phi (jp D) a) w):
 ∀(a:Act) (w:World),So J S w0 N (I [] k0++R) env a w->Code.gj fid P (.rangeFunc g ps assign body) Q a w:=λa w h=>by
 have:=Ia (ds:=[]) (m:=m) hseq eg V hS hJ0 hH I pv O3 O4 k0 p8 env' hl hset nY hg hassign hbody hdone hstop n3 hpq a w h
 have e:phi [] a=a:=by unfold phi;rw[List.append_nil]
 rw[e]at this
 exact this
theorem Uq {α κ μ σ:Type} {m:Nat} {g:Operand} {p:Tmp} {assign body:Code} {gf:FuncId} {eD:List AV} {av:α->AV} {xs:List α} {fl:Option Value} {Hs R:List OB} (hseq:my P J gf Hs eD (λx=>[av x]) xs fl) (eg:dy P gf)
 (V:aR J) (hS:∀ b,w0.heap.size<=b->S b) (hJ0:J w0) (hH:Has Hs S w0) (I:List α->κ->List OB) (pv:μ->Value) (O3:μ->List OB) (O4:σ->List OB) (k0:κ) (env':α->List (Nat×AV)) (hp:p<N) {mR:Func} (nY:P.funcs[fid]?=some mR)
 (hg:∀ a w,So J S w0 N (I [] k0++R) env a w->∃ cap:List Value,a.eval g= .func (.func gf) #[] cap.toArray/\bi (SO S (I [] k0++R)) w eD cap)
 (hassign:∀(m l:Nat) (R':List OB) (pre:List α) (x:α) (k:κ) (K:Act->WP),(∀ a w,So J S w0 N (I pre k++R') (env' x) a w->K a w)->
  Tr ⟨m,some l⟩ P (So J S w0 N (I pre k++R') ((p,av x)::dP p env)) assign (Exit.then K (λ_ _ _=>False)))
 (hbody:∀(m l:Nat) (R':List OB) (pre:List α) (x:α) (k:κ),(pre++[x])<+:xs->Tr ⟨m,some l⟩ P (So J S w0 N (I pre k++R') (env' x)) body (uI J S w0 (I (pre++[x])) pv O3 O4 R'))
 (hdone:fl=none->∀ k D a w,So J S w0 N (OB.fM D::(I xs k++R)) env a w->Q .normal (phi (jp D) a) w)
 (hstop:∀ s D a w,So J S w0 N (OB.fM D::(O4 s++R)) env a w->Q .ret (phi (jp D) a) w)
 (n3:∀ v,fl=some v->∀ k D a w,So J S w0 N (OB.fM D::(I xs k++R)) env a w->Q (.panic (eY v)) (phi (jp D) a) w)
 (hpq:∀ q D a w,So J S w0 N (OB.fM D::(O3 q++R)) env a w->Q (.panic (eY (pv q))) (phi (jp D) a) w):
 ∀(a:Act) (w:World),So J S w0 N (I [] k0++R) env a w->Code.gj fid P (.rangeFunc g #[p] assign body) Q a w:=
 H9 (m:=m) hseq eg V hS hJ0 hH I pv O3 O4 k0 (λx=>(p,av x)::dP p env) env' (λ_=>rfl) (λT w x vs A hA hr he q hq=>by
  obtain⟨v,hv,rfl⟩:=Io hr
  rw[Iz]
  exact xO hA hp hv he q hq) nY hg hassign hbody hdone hstop n3 hpq
theorem Ur {α κ μ σ:Type} {m:Nat} {Ds:List Nat} {g:Operand} {p:Tmp} {assign body:Code} {gf:FuncId} {eD:List AV} {av:α->AV} {xs:List α} {fl:Option Value} {Hs R:List OB} (hseq:my P J gf Hs eD (λx=>[av x]) xs fl) (eg:dy P gf)
 (V:aR J) (hS:∀ b,w0.heap.size<=b->S b) (hJ0:J w0) (hH:Has Hs S w0) (I:List α->κ->List OB) (pv:μ->Value) (O3:μ->List OB) (O4:σ->List OB) (k0:κ) (env':α->List (Nat×AV)) (hp:p<N) {mR:Func} (nY:P.funcs[fid]?=some mR)
 (hg:∀ a w,So J S w0 N (I [] k0++R) env a w->∃ cap:List Value,a.eval g= .func (.func gf) #[] cap.toArray/\bi (SO S (I [] k0++R)) w eD cap)
 (hassign:∀(m l:Nat) (R':List OB) (pre:List α) (x:α) (k:κ) (K:Act->WP),(∀ a w,So J S w0 N (I pre k++R') (env' x) a w->K a w)->
  Tr ⟨m,some l⟩ P (So J S w0 N (I pre k++R') ((p,av x)::dP p env)) assign (Exit.then K (λ_ _ _=>False)))
 (hbody:∀(m l:Nat) (R':List OB) (pre:List α) (x:α) (k:κ),(pre++[x])<+:xs->Tr ⟨m,some l⟩ P (So J S w0 N (I pre k++R') (env' x)) body (uI J S w0 (I (pre++[x])) pv O3 O4 R'))
 (hdone:fl=none->∀ k D a w,So J S w0 N (OB.fM D::(I xs k++R)) env a w->Q .normal (phi (kG (D::Ds)) a) w)
 (hstop:∀ s D a w,So J S w0 N (OB.fM D::(O4 s++R)) env a w->Q .ret (phi (kG (D::Ds)) a) w)
 (n3:∀ v,fl=some v->∀ k D a w,So J S w0 N (OB.fM D::(I xs k++R)) env a w->Q (.panic (eY v)) (phi (kG (D::Ds)) a) w)
 (hpq:∀ q D a w,So J S w0 N (OB.fM D::(O3 q++R)) env a w->Q (.panic (eY (pv q))) (phi (kG (D::Ds)) a) w):
 ∀(a:Act) (w:World),So J S w0 N (I [] k0++R) env a w->Code.gj fid P (.rangeFunc g #[p] assign body) Q (phi (kG Ds) a) w:=
 Ia (ds:=kG Ds) (m:=m) hseq eg V hS hJ0 hH I pv O3 O4 k0 (λx=>(p,av x)::dP p env) env' (λ_=>rfl) (λT w x vs A hA hr he q hq=>by
  obtain⟨v,hv,rfl⟩:=Io hr
  rw[Iz]
  exact xO hA hp hv he q hq) nY hg hassign hbody hdone hstop n3 hpq
theorem H8 {α κ μ σ:Type} {m:Nat} {g:Operand} {p p2:Tmp} {assign body:Code} {gf:FuncId} {eD:List AV} {av yJ:α->AV} {xs:List α} {fl:Option Value} {Hs R:List OB} (hseq:my P J gf Hs eD (λx=>[av x,yJ x]) xs fl) (eg:dy P gf)
 (V:aR J) (hS:∀ b,w0.heap.size<=b->S b) (hJ0:J w0) (hH:Has Hs S w0) (I:List α->κ->List OB) (pv:μ->Value) (O3:μ->List OB) (O4:σ->List OB) (k0:κ) (env':α->List (Nat×AV)) (hp:p<N) (hp2:p2<N) {mR:Func} (nY:P.funcs[fid]?=some mR)
 (hg:∀ a w,So J S w0 N (I [] k0++R) env a w->∃ cap:List Value,a.eval g= .func (.func gf) #[] cap.toArray/\bi (SO S (I [] k0++R)) w eD cap)
 (hassign:∀(m l:Nat) (R':List OB) (pre:List α) (x:α) (k:κ) (K:Act->WP),(∀ a w,So J S w0 N (I pre k++R') (env' x) a w->K a w)->
  Tr ⟨m,some l⟩ P (So J S w0 N (I pre k++R') ((p2,yJ x)::dP p2 ((p,av x)::dP p env))) assign (Exit.then K (λ_ _ _=>False)))
 (hbody:∀(m l:Nat) (R':List OB) (pre:List α) (x:α) (k:κ),(pre++[x])<+:xs->Tr ⟨m,some l⟩ P (So J S w0 N (I pre k++R') (env' x)) body (uI J S w0 (I (pre++[x])) pv O3 O4 R'))
 (hdone:fl=none->∀ k D a w,So J S w0 N (OB.fM D::(I xs k++R)) env a w->Q .normal (phi (jp D) a) w)
 (hstop:∀ s D a w,So J S w0 N (OB.fM D::(O4 s++R)) env a w->Q .ret (phi (jp D) a) w)
 (n3:∀ v,fl=some v->∀ k D a w,So J S w0 N (OB.fM D::(I xs k++R)) env a w->Q (.panic (eY v)) (phi (jp D) a) w)
 (hpq:∀ q D a w,So J S w0 N (OB.fM D::(O3 q++R)) env a w->Q (.panic (eY (pv q))) (phi (jp D) a) w):
 ∀(a:Act) (w:World),So J S w0 N (I [] k0++R) env a w->Code.gj fid P (.rangeFunc g #[p,p2] assign body) Q a w:=
 H9 (m:=m) hseq eg V hS hJ0 hH I pv O3 O4 k0 (λx=>(p2,yJ x)::dP p2 ((p,av x)::dP p env)) env' (λ_=>rfl) (λT w x vs A hA hr he q hq=>by
  obtain⟨v,v2,hv,hv2,rfl⟩:=UG hr
  rw[Vf]
  exact xO (by simpa using hA) hp2 hv2 (xO hA hp hv he) q hq) nY hg hassign hbody hdone hstop n3 hpq
end
section
variable {P:Program} {n:Rn} {S:Nat->Prop} {X:WP} {o:Oper} {a:Act} {w:World} {t u:TypeId} {x y:Operand}
end
section
variable {P:Program} {J:WP} {N:Nat}
def yB {α κ μ σ:Type} (P:Program) (J:WP) (S:Nat->Prop) (w0:World) (l:Nat) (am:α->List AV) (xs:List α) (I:List α->κ->List OB) (pv:μ->Value) (O3:μ->List OB) (O4:σ->List OB):Prop:=
 ∀(m:Nat) (R':List OB) (pre:List α) (x:α) (k:κ) (w1:World) (vs:List Value),(pre++[x])<+:xs->Keeps All w0 w1->XO J S w0.heap.size (I pre k++R') w1->bi (SO S (I pre k++R')) w1 (am x) vs->YieldAt Fence.wide m P l vs.toArray w1 (uH J S w0 (I (pre++[x])) pv O3 O4 R')
theorem wq {α:Type} {g:FuncId} {fn:Func} {c:Code} {eD:List AV} {am:α->List AV} {xs:List α} {fl:Option Value} {Hs:List OB} (hf:P.funcs[g]?=some fn) (hb:fn.body=some c) (hN:fn.ntmps=N) (hl:eD.length+1<=N)
 (h:∀(S:Nat->Prop) (w0:World) (R:List OB) (l:Nat) (κ μ σ:Type) (I:List α->κ->List OB) (pv:μ->Value) (O3:μ->List OB) (O4:σ->List OB) (k0:κ),(∀ b,w0.heap.size<=b->S b)->J w0->Has Hs S w0->yB P J S w0 l am xs I pv O3 O4->
  Tr 5 P (St All (SO S (I [] k0++R)) w0 N (jq 0 (.lit (.func (.yield l) #[] #[])::eD)) (XO J S w0.heap.size (I [] k0++R))) c (bodyPost P fn (qL J S w0 (I xs) pv O3 O4 R fl))):my P J g Hs eD am xs fl:=by
 intro S w0 R w l n us κ μ σ I pv O3 O4 k0 hS V hH hk Z rT hY
 have ha:bi (SO S (I [] k0++R)) w (.lit (.func (.yield l) #[] #[])::eD) (.func (.yield l) #[] #[]::us):=aq (Rel.aH _) rT
 obtain⟨g1,g2⟩:=sc (N:=N) (by simpa using hl) hN ha
 have he:(#[Value.func (.yield l) #[] #[]]++us.toArray)=(Value.func (.yield l) #[] #[]::us).toArray:=by simp
 rw[he]
 have hc:Calls P g (Value.func (.yield l) #[] #[]::us).toArray w (qL J S w0 (I xs) pv O3 O4 R fl):=(callsIn_wide (n:=5)).1 (callsIn_of_wp hf hb trivial (h S w0 R l κ μ σ I pv O3 O4 k0 hS V hH hY _ _ ⟨rfl,g1,hk,Z,g2⟩) rfl)
 exact callsIn_wide.2 hc
variable {α κ μ σ:Type} {S:Nat->Prop} {w0 w:World} {a:Act} {env:List (Nat×AV)} {R:List OB} {I:List α->κ->List OB} {pv:μ->Value} {O3:μ->List OB} {O4:σ->List OB} {xs pre:List α} {fl:Option Value} {fn:Func}
theorem wV (hf:fl=none) (he:pre=xs) (k:κ) (hr:fn.results= #[]) (h:So J S w0 N (I pre k++R) env a w):bodyPost P fn (qL J S w0 (I xs) pv O3 O4 R fl) .ret a w:=by
 subst he
 exact⟨h.defs,.tuple #[],by simp[results,hr,Sem.run_pure],.inl ⟨hf,_,k,rfl,h.keep,h.x⟩⟩
theorem wX (s:σ) (hr:fn.results= #[]) (h:So J S w0 N (O4 s++R) env a w):bodyPost P fn (qL J S w0 (I xs) pv O3 O4 R fl) .ret a w:=
 ⟨h.defs,.tuple #[],by simp[results,hr,Sem.run_pure],.inr (.inr (.inl ⟨_,s,rfl,h.keep,h.x⟩))⟩
theorem wW (q:μ):∀ a w,So J S w0 N (O3 q++R) env a w->a.defers=[]/\qL J S w0 (I xs) pv O3 O4 R fl (.panicked (eY (pv q))) w:=λ_ _ h=>
 ⟨h.defs,.inr (.inr (.inr ⟨q,rfl,h.keep,h.x⟩))⟩
end
section
variable {N:Nat} {J:WP} {S:Nat->Prop} {w0 w:World} {a:Act} {env:List (Nat×AV)} {B R:List OB}
theorem ux (A B R:List OB):(A++(B++R)).Perm (B++(A++R)):=by
 rw[<-append_assoc,<-append_assoc]
 exact List.Perm.append_right R List.perm_append_comm
theorem IV {O O':List OB} (hp:O.Perm O') (h:So J S w0 N O env a w):St All (SO S O') w0 N env (XO J S w0.heap.size O') a w:=
 ⟨h.defs,h.size,h.keep,fR hp h.x,λp hm=>⟨(h.env p hm).1,(h.env p hm).2.sub λ_ _ hs=>hs.perm hp⟩⟩
theorem VQ (A:List OB) (h:So J S w0 N (A++(B++R)) env a w):So J S w0 N (B++(A++R)) env a w:=IV (ux A B R) h
theorem yb (A:List OB) (h:So J S w0 N (B++(A++R)) env a w):So J S w0 N (A++(B++R)) env a w:=IV (ux B A R) h
theorem B7:∀(A:List OB) {O:List OB},So J S w0 N (A++O) env a w->So J S w0 N O env a w
 | [],_,h=>h
 | _::A,_,h=>B7 A (cK h)
theorem Qf {α κ μ σ:Type} {I:List α->κ->List OB} {pv:μ->Value} {O3:μ->List OB} {O4:σ->List OB} {xs:List α} {fl:Option Value} (A:List OB) (q:μ):∀ a w,So J S w0 N (O3 q++(A++R)) env a w->a.defers=[]/\qL J S w0 (I xs) pv O3 O4 R fl (.panicked (eY (pv q))) w:=
 λa w h=>wW q a w (B7 A (yb A h))
end
section
variable {P:Program} {fid:FuncId} {Q:Exit->Act->WP} {a:Act} {w:World} {A:Act->WP}
theorem CV {id:Nat} {c:Code} (h:Code.gj fid P c (Exit.inBlock id Q) a w):Code.gj fid P (.block id c) Q a w:=by
 intro b k cs hro hb
 have h0:(lone (b.atR a (.code (.block id c)::k)) cs w).fenced P Fence.wide:=fenced_calm (n:=0) trivial (lM _) rfl
 obtain⟨e,a₁,w₁,hq,harr⟩:=h b (.inBlock id::k) cs hro hb
 cases e with
 | normal=>exact⟨.normal,a₁,w₁,hq,.head h0 stepR_block (StepsIn.trans harr (.one (fenced_calm (n:=0) trivial (lM _) rfl) stepR_inBlock))⟩
 | exit id'=>
  by_cases hid:id'=id
  ·simp only[Exit.inBlock,hid,if_true]at hq
   exact⟨.normal,a₁,w₁,hq,.head h0 stepR_block (harr.1 k (by simp[exitTo,hid]))⟩
  ·simp only[Exit.inBlock,hid,if_false]at hq
   have this:(id==id')=false:=by simp;exact λh=>hid h.symm
   have Z:exitTo id' (.inBlock id::k)=exitTo id' k:=by simp[exitTo,this]
   exact⟨.exit id',a₁,w₁,hq,λk' hk=>.head h0 stepR_block (harr.1 k' (by rw[Z];exact hk)),
    λhr' hk=>let⟨k₁,h1,h2⟩:=harr.2 hr' (by rw[Z];exact hk);⟨k₁,h1,.head h0 stepR_block h2⟩⟩
 | goto l=>
  have Z:gotoIn l (.inBlock id::k)=gotoIn l k:=by simp[gotoIn]
  exact⟨_,a₁,w₁,hq,λk' hk=>.head h0 stepR_block (harr.1 k' (by rw[Z];exact hk)),
   λhr' hk=>let⟨k₁,h1,h2⟩:=harr.2 hr' (by rw[Z];exact hk);⟨k₁,h1,.head h0 stepR_block h2⟩⟩
 | ret=>exact⟨_,a₁,w₁,hq,.of_steps (.one h0 stepR_block) harr⟩
 | panic ch=>exact⟨_,a₁,w₁,hq,.of_steps (.one h0 stepR_block) harr⟩
 | outgrown=>exact⟨_,a₁,w₁,hq,.of_steps (.one h0 stepR_block) harr⟩
def ka (fid:FuncId) (P:Program) (A:Act->WP) (c:Code) (Q:Exit->Act->WP):Prop:=∀ a w,A a w->Code.gj fid P c Q a w
theorem im {m:Nat} {x y:Code} (h:Tr (⟨m,none⟩:Rn) P A x (Exit.then (λa w=>Code.gj fid P y Q a w) Q)):ka fid P A (.seq x y) Q:=λa w ha=>vn (yI (h a w ha))
theorem iC {y:Code} (h:ka fid P A y Q):∀ a w,A a w->Code.gj fid P y Q a w:=h
theorem qC (ds:List Deferred) (a:Act) (d:Option Nat) (v:Value):(phi ds a).put d v=phi ds (a.put d v):=by cases d<;>rfl
theorem WH {F:Fence} {n:Nat} {o:Oper} {ds:List Deferred} {next next':Act->WP} {r:Result Next} (hn:∀ b w,next' b w->next (phi ds b) w) (h:o.uponIn F n P a next' (λe b w=>Q e (phi ds b) w) r):o.uponIn F n P (phi ds a) next Q r:=by
 have hl:LetsOut (λe b w=>Q e (phi ds b) w)->LetsOut Q:=λ⟨b,w,hb⟩=>⟨phi ds b,w,hb⟩
 cases r with
 | halt s w'=>
  cases s<;>exact h
 | ok x w'=>
  cases x with
  | value v=>rw[Oper.uponIn_value]at h ⊢;rw[qC];exact hn _ _ h
  | skip=>rw[Oper.uponIn_skip]at h ⊢;rw[qC];exact hn _ _ h
  | defer d=>rw[Oper.uponIn_defer]at h ⊢;exact(qC ds { a with defers:=d::a.defers } o.dst undef)▸hn _ _ h
  | enter f args=>
   rw[Oper.uponIn_enter]at h ⊢
   refine⟨h.1,h.2.mono λe w'' he=>?_⟩
   cases e with
   | returned v=>simp only at he ⊢;rw[qC];exact hn _ _ he
   | panicked ch=>exact he
   | outgrown=>exact hl he
  | row row args=>
   rw[Oper.uponIn_row]at h ⊢
   refine⟨h.1,h.2.mono λv w'' he=>?_⟩
   rw[qC];exact hn _ _ he
  | round l f tmps assign body=>
   rw[Oper.uponIn_round]at h ⊢
   refine⟨h.1,h.2.mono λe w'' he=>?_⟩
   cases e with
   | returned v=>simp only at he ⊢;rw[qC];exact hn _ _ he
   | panicked ch=>exact he
   | outgrown=>exact hl he
  | _=>exact h
theorem Cn {F:Fence} {n:Nat} {ops:Array Oper} {ds:List Deferred}:∀ {l:List Oper} {a:Act} {w:World},wpListIn F n P ops (λe b w=>Q e (phi ds b) w) l a w->wpListIn F n P ops Q l (phi ds a) w
 | [],_,_,h=>h
 | o::rest,a,w,h=>by
  have hy:yielded ops (phi ds a).tmps=yielded ops a.tmps:=rfl
  unfold wpListIn at h ⊢
  rw[hy]
  split
  ·rename_i hw
   rw[if_pos hw]at h
   exact⟨h.1,WH (λb w hb=>Cn hb) h.2⟩
  ·rename_i hw
   rw[if_neg hw]at h
   exact⟨h.1,by rw[qC];exact Cn h.2⟩
theorem UF {F:Fence} {n:Nat} {id:Nat} {l:List Oper} {ds:List Deferred} (h:wpListIn F n P l.toArray (λe b w=>Q e (phi ds b) w) l a w):(Code.region id l.toArray false).wpIn F n P Q (phi ds a) w:=wpIn_region_lit (Cn h)
def jR (n:Rn) (ds:List Deferred) (P:Program) (A:Act->WP) (c:Code) (Q:Exit->Act->WP):Prop:=∀ a w,A a w->c.wpIn n.F n.d P Q (phi ds a) w
variable {n:Rn} {ds:List Deferred}
theorem s8 {x y:Code} (h:jR n ds P A x (Exit.then (λa w=>y.wpIn n.F n.d P Q a w) Q)):jR n ds P A (.seq x y) Q:=λa w ha=>wpIn_seq (h a w ha)
theorem uh {y:Code} (h:jR n ds P A y Q):∀ a w,A a w->y.wpIn n.F n.d P Q (phi ds a) w:=h
theorem mM {id:Nat} {l:List Oper} (h:∀ a w,A a w->wpListIn n.F n.d P l.toArray (λe b w=>Q e (phi ds b) w) l a w):jR n ds P A (.region id l.toArray false) Q:=λa w ha=>UF (h a w ha)
theorem D0 (h:∀ a w,A a w->Q .normal (phi ds a) w):jR n ds P A .skip Q:=λa w ha=>wpIn_skip (h a w ha)
theorem DV {id:Nat} (h:∀ a w,A a w->Q (.exit id) (phi ds a) w):jR n ds P A (.exit id) Q:=λa w ha=>wpIn_exit (h a w ha)
theorem vT (h:∀ a w,A a w->Q .ret (phi ds a) w):jR n ds P A .ret Q:=λa w ha=>wpIn_ret (h a w ha)
theorem Ma {B:Act->WP} {c:Code} (lZ:∀ {a:Act} {w:World},A a w->B a w) (h:jR n ds P B c Q):jR n ds P A c Q:=λa w ha=>h a w (lZ ha)
theorem DT {K S:Nat->Prop} {w0:World} {N:Nat} {env:List (Nat×AV)} {X:WP} {y z:Code} {d:Operand} {s:Nat} (m:Nat) {g:Bool} (ht:g=true->jR n ds P (St K S w0 N env X) y Q) (hf:g=false->jR n ds P (St K S w0 N env X) z Q) (he:env[m]?=some (s,.bool g):=by exact rfl) (hc:d= .tmp s:=by exact rfl):jR n ds P (St K S w0 N env X) (.cond d y z) Q:=λa w ha=>
 wpIn_cond_split (t:=g) (by rw[hc];exact(ha.get m he).lit) (λh=>ht h a w ha) λh=>hf h a w ha
theorem vd {id:Nat} {c:Code} (h:ka fid P A c (Exit.inBlock id Q)):ka fid P A (.block id c) Q:=λa w ha=>CV (h a w ha)
theorem ve {x y:Code} (h:ka fid P A x (Exit.then (λa w=>Code.gj fid P y Q a w) Q)):ka fid P A (.seq x y) Q:=λa w ha=>vn (h a w ha)
theorem oH {B:Act->WP} {c:Code} (lZ:∀ {a:Act} {w:World},A a w->B a w) (h:ka fid P B c Q):ka fid P A c Q:=λa w ha=>h a w (lZ ha)
theorem mf {α:Type} {f:α->List CD} {xs:List α} {K S:Nat->Prop} {w0:World} {N:Nat} {env:List (Nat×AV)} {X:WP} {c:Code} {s:Nat} (m:Nat) (h:xs.length<=9223372036854775807->ka fid P (St K S w0 N env X) c Q) (he:env[m]?=some (s,.rd (.sl (xs.map f))):=by exact rfl):ka fid P (St K S w0 N env X) c Q:=λa w ha=>h (AR ha m he) a w ha
theorem QL {α:Type} {f:α->List CD} {xs:List α} {K S:Nat->Prop} {w0:World} {N:Nat} {env:List (Nat×AV)} {X:WP} {c:Code} {s:Nat} (m:Nat) (h:xs.length<=9223372036854775807->jR n ds P (St K S w0 N env X) c Q) (he:env[m]?=some (s,.rd (.sl (xs.map f))):=by exact rfl):jR n ds P (St K S w0 N env X) c Q:=λa w ha=>h (AR ha m he) a w ha
theorem sd {m:Nat} {y:Code} (h:jR (⟨m,none⟩:Rn) ds P A y Q):∀ a w,A a w->Code.gj fid P y Q (phi ds a) w:=λa w ha=>yI (h a w ha)
end
section
variable {N:Nat} {P:Program} {J:WP} {S:Nat->Prop} {O:List OB} {w0:World} {env:List (Nat×AV)} {fn:Func} {R:Ending->WP} {a:Act} {w:World} {D:Nat} {ch:List PanicEntry}
theorem GX (h:bodyPost P fn R .ret a w):bodyPostM Fence.wide 5 P fn R .ret a w:=by
 obtain⟨hd,v,hr,h⟩:=h
 exact Sa hd hr h
theorem Bl {A:Act->WP} (h:∀ a w,A a w->bodyPost P fn R .ret a w):∀ a w,A a w->bodyPostM Fence.wide 5 P fn R .ret a w:=λa w ha=>GX (h a w ha)
theorem IW (V:aR J) (hJ0:J w0) (h:So J S w0 N (OB.fM D::O) env a w):w.heap[D]?=some (.deferred (some []))/\So J S w0 N O env a (w.putObj D (.deferred none)):=by
 refine⟨(qz (l:=D) h.x yz).2,cK (h.step0 (sD (.deferred none) V hJ0 h.keep h.x) undef)⟩
theorem xn (V:aR J) (hJ0:J w0) (h:∀ a w,So J S w0 N O env a w->bodyPost P fn R .ret a w):∀ a w,So J S w0 N (OB.fM D::O) env a w->bodyPostM Fence.wide 5 P fn R .ret (phi (jp D) a) w:=λa w ha=>by
 obtain⟨h1,h2⟩:=IW V hJ0 ha
 obtain⟨hd,v,hr,hR⟩:=h a _ h2
 exact Sb (a:=phi (jp D) a) (by simp[phi,hd]) h1 hr hR
theorem oq {p:Prop} (hp:p) (h:So J S w0 N O env a w):So J S w0 N (OB.mO p::O) env a w:=by
 have hs:∀ k,SO S O k->SO S (OB.mO p::O) k:=λk hk=>⟨hk.1,λq hq=>by
  rcases mem_cons.1 hq with rfl | hq
  ·exact λe=>e
  ·exact hk.2 q hq⟩
 refine⟨h.defs,h.size,h.keep,⟨h.x.1,λq hq=>?_,.cons (λ_ _ _ e=>e.elim) h.x.2.2⟩,λq hq=>⟨(h.env q hq).1,(h.env q hq).2.sub λk _=>hs k⟩⟩
 rcases mem_cons.1 hq with rfl | hq
 ·exact hp
 ·exact OB.sub (h.x.2.1 q hq) λk _=>hs k
theorem ye {p:Prop} {n:Rn} {c:Code} {Q:Exit->Act->WP} (h:p->Tr n P (So J S w0 N O env) c Q):Tr n P (So J S w0 N (OB.mO p::O) env) c Q:=λa w ha=>h (ha.x.2.1 (OB.mO p) yz) a w (cK ha)
theorem ya {p:Prop} {R:Act->WP} (h:p->∀ a w,So J S w0 N O env a w->R a w):∀ a w,So J S w0 N (OB.mO p::O) env a w->R a w:=λa w ha=>h (ha.x.2.1 (OB.mO p) yz) a w (cK ha)
theorem xJ {T:Nat->Prop} {f:FuncId} {l:List AV} {v:Value} (h:Rel T w (.fn f l) v):∃ cap:List Value,v= .func (.func f) #[] cap.toArray/\bi T w l cap:=by simpa only[Rel]using h
theorem zL {f:FuncId} {c:Code} {args:List AV} {res:AV} (hf:P.funcs[f]?=some fn) (hb:fn.body=some c) (hN:fn.ntmps=N) (hl:args.length<=N)
 (h:∀(S:Nat->Prop) (w0:World),(∀ b,w0.heap.size<=b->S b)->J w0->ka f P (St All S w0 N (jq 0 args) J) c (bodyPostM Fence.wide 5 P fn λe w'=>∃ v,e= .returned v/\Rel S w' res v/\Keeps All w0 w'/\J w')):Fn P J f args res:=by
 intro S w0 vs hS V ha
 obtain⟨g1,g2⟩:=sc hl hN ha
 exact DA hf hb (h S w0 hS V _ _ ⟨rfl,g1,Keeps.refl _ _,V,g2⟩)
theorem EI {ι:Type} {f:FuncId} {c:Code} {args:List AV} {res:ι->AV} {O':ι->List OB} (hf:P.funcs[f]?=some fn) (hb:fn.body=some c) (hN:fn.ntmps=N) (hl:args.length<=N)
 {Hs:List OB} (h:∀(S:Nat->Prop) (w0:World) (R:List OB),(∀ b,w0.heap.size<=b->S b)->J w0->Has Hs S w0->ka f P (So J S w0 N (O++R) (jq 0 args)) c (bodyPostM Fence.wide 5 P fn (λe w'=>∃ i v,e= .returned v/\Rel (SO S (O' i++R)) w' (res i) v/\Keeps All w0 w'/\XO J S w0.heap.size (O' i++R) w'))):fc P J f Hs args O res O':=by
 intro S w0 R w vs hS V hH hk Z ha
 obtain⟨g1,g2⟩:=sc hl hN ha
 exact DA hf hb (h S w0 R hS V hH _ _ ⟨rfl,g1,hk,Z,g2⟩)
end
theorem yN:lN prog 162 2:=⟨#[.string ⟨#[]⟩,.string ⟨#[]⟩],Y,λi=>(#[(0,1),(1,1)]:Array (Nat×Nat))[i]?,λj hj=>by rcases j with _ | _ | j<;>first | rfl | omega,λparts=>by kernel_rfl⟩
theorem Tz {J:WP} (V:aR J) (bl:List Bd) (us:List BA) (ap:List Pr) (rK:∀ b∈bl,b.ac.length<=2000):my prog J 147 [] [.ptr [fq bl],.ptr [ai us],.ptr [bM ap]] (λx9=>[.agg (aS x9)]) (fi bl ap us) (none):=by
 refine wq (N:=55) func147 Y Y (lb Y) λS w0 R l κ μ σ I pv O3 O4 k0 hS hJ0 hH hY=>g5 (B:=So J S w0 55 (I ([]) k0++R) [(0,.rd (.lit (.func (.yield l) #[] #[]))),(1,.ptr [fq bl]),(2,.ptr [ai us]),(3,.ptr [bM ap])]) ?_ λa w h=>h
 refine aL (ao 1 tb Y (iI (O:=[]) (R:=(I ([]) k0++R)) (Br V bl) (cO func132) Y Y Y (lb Y) hS hJ0 b8 (λa w h=>(aq (h.get 0 Y) aN)) λz1=>ao 1 tb Y (aA [0,2,3,5,6] U5 Y (nx (ln 1 λcr=>?_)))))
 refine aL (ao 1 tb Y (iI (O:=[]) (R:=(OB.map aB (λz':List BA=>AV.rd (ai z')) z1 (az bl)::(I ([]) k0++R))) (Tw V us) (cO func148) Y Y Y (lb Y) hS hJ0 b8 (λa w h=>(aq (h.get 0 Y) aN)) λz2=>ao 1 tb Y (aA [0,2,3,5,7] U5 Y (nx (ln 1 λhl2=>?_)))))
 refine au tb V [0,2,3,1000,1001,1002] [_,.int (ap.length:Nat),_] [1] U6 Y ⟨aC fQ,U⟩ ?_
 refine ln 3 λ_=>?_
 refine ax (lpo (ι:=Nat×(List Pr)×κ) (λ(k,pre,_)=>(k<=ap.length)/\(pre=(ap.take k).flatMap (pq bl us))) (λ(_,pre,kk)=>(OB.set aB z2 (cZ us)::OB.map aB (λz':List BA=>AV.rd (ai z')) z1 (az bl)::(I pre kk++R))) (λ(k,_,_)=>[(19,.int (k:Nat))]) (λ(k,_,_)=>ap.length-k) (r6 []) U5 (0,[],k0) ⟨aI,Y⟩ ?_)
 rintro⟨k,pre,kk⟩ ⟨aQ,ah⟩
 refine aj tb V (r6 [1000]) [_] U7 ?_
 refine cE 6 ?_ ?_<;>intro hb1<;>try simp at hb1
 refine ak (nx (af (ax (aL (sy (.ptr (aS (G ap k))) (λh=>cb (i:=(k:Int)) df Y (h.get 3 Y) (h.get 5 Y) bK (cl (xs:=ap) (k:=k) ay) Y h.x) ?_)))))
 refine ao 1 tb Y (iX (cs:=aS (G ap k)) ym Y Y Y (lb Y) Y Y Y dz (m:=0) Y Y (λa w h=>aK hS _ h.keep h.x _ aV) (λa w h w' hk'=>fo V _ _ hk' h.x) (aA [0,3,4,5,6,7,8] U7 Y (nx (au tb V (r7 [1003,1005,1006,1007]) (V3 [.rd (ai (bp (az bl) ((G ap k).a))),_,.rd (ai (c9 (bp (az bl) ((G ap k).a)) (cZ us))),.int ((c9 (bp (az bl) ((G ap k).a)) (cZ us)).length:Nat),_]) [3,5,6] lm Y ⟨λa _ hk Z hl _=>dv (uw V z1 (az bl) ((G ap k).a)) (cO func133) Y (aK hS _ hk Z) (Z.1) (dJ (aG Z (mo 1 Y)) b8) (aq (hl.D 0 23 Y Y) (aq (hl.D 2 25 Y Y) aN)) (jo V Z),λa _ hk Z hl _=>dv (Hl V z2 (cZ us) (bp (az bl) ((G ap k).a)) (by exact qo (m:=2000) oz rK _)) (cO func149) Y (aK hS _ hk Z) (Z.1) (dJ (aG Z (mo 0 Y)) b8) (aq (hl.D 3 26 Y Y) (aq (hl.D 4 27 Y Y) aN)) (jo V Z),aC b7,U⟩ ?_))))
 refine ln 7 λ_=>?_
 refine ln 8 λ_=>?_
 refine ax (lpo (ι:=Nat×(List Pr)×κ) (λ(j,pre,_)=>(j<=(c9 (bp (az bl) (G ap k).a) (cZ us)).length)/\(pre=(ap.take k).flatMap (pq bl us)++((c9 (bp (az bl) (G ap k).a) (cZ us)).take j).flatMap (sx bl us (G ap k)))) (λ(_,pre,kk)=>(OB.set aB z2 (cZ us)::OB.map aB (λz':List BA=>AV.rd (ai z')) z1 (az bl)::(I pre kk++R))) (λ(j,_,_)=>[(30,.int (j:Nat))]) (λ(j,_,_)=>(c9 (bp (az bl) (G ap k).a) (cZ us)).length-j) (r7 [8,9,10]) U9 (0,pre,kk) ⟨aI,by rw[ah];simp⟩ ?_)
 rintro⟨j,pre,kk⟩ ⟨fD,bu⟩
 refine aj tb V (ml [1000]) [_] lm ?_
 refine cE 10 ?_ ?_<;>intro hb2<;>try simp at hb2
 refine ak (nx (af (ax (au tb V (ml [1002]) [.ptr [lS (G (c9 (bp (az bl) ((G ap k).a)) (cZ us)) j)],_,_] [0] lm Y ⟨bq bz,U⟩ ?_))))
 refine au tb V (pl [1003,1005,1006,1007]) (V3 [.rd (ai (bp (az bl) ((G ap k).b))),_,.rd (ai (c9 (bp (az bl) ((G ap k).b)) (cZ us))),.int ((c9 (bp (az bl) ((G ap k).b)) (cZ us)).length:Nat),_]) [3,5,6] pB Y ⟨λ_ _ hk Z hl _=>dv (uw V z1 (az bl) ((G ap k).b)) (cO func133) Y (aK hS _ hk Z) (Z.1) (dJ (aG Z (mo 1 Y)) b8) (aq (hl.D 0 34 Y Y) (aq (hl.D 2 36 Y Y) aN)) (jo V Z),λ_ _ hk Z hl _=>dv (Hl V z2 (cZ us) (bp (az bl) ((G ap k).b)) (by exact qo (m:=2000) oz rK _)) (cO func149) Y (aK hS _ hk Z) (Z.1) (dJ (aG Z (mo 0 Y)) b8) (aq (hl.D 3 37 Y Y) (aq (hl.D 4 38 Y Y) aN)) (jo V Z),aC b7,U⟩ ?_
 refine ln 11 λ_=>?_
 refine ln 12 λ_=>?_
 refine ax (lpo (ι:=Nat×(List Pr)×κ) (λ(i,pre,_)=>(i<=(c9 (bp (az bl) (G ap k).b) (cZ us)).length)/\(pre=(ap.take k).flatMap (pq bl us)++((c9 (bp (az bl) (G ap k).a) (cZ us)).take j).flatMap (sx bl us (G ap k))++((c9 (bp (az bl) (G ap k).b) (cZ us)).take i).map (λy=>da ⟨G (c9 (bp (az bl) (G ap k).a) (cZ us)) j,y⟩))) (λ(_,pre,kk)=>(OB.set aB z2 (cZ us)::OB.map aB (λz':List BA=>AV.rd (ai z')) z1 (az bl)::(I pre kk++R))) (λ(i,_,_)=>[(41,.int (i:Nat))]) (λ(i,_,_)=>(c9 (bp (az bl) (G ap k).b) (cZ us)).length-i) (pl [12,13,14]) [_,_,_,_,_,_,_,_,_,_,_,_,_] (0,pre,kk) ⟨aI,by rw[bu];simp⟩ ?_)
 rintro⟨i,pre,kk⟩ ⟨rx,jU⟩
 refine aj tb V [0,1,2,3,4,5,6,7,8,9,10,11,12,13,1000] [_] pB ?_
 refine cE 14 ?_ ?_<;>intro aD<;>try simp at aD
 refine ak (nx (af (ax (au tb V [0,1,2,3,4,5,6,7,8,9,10,11,12,13,1002] [.ptr [lS (G (c9 (bp (az bl) ((G ap k).b)) (cZ us)) i)],_,_] [0] pB Y ⟨bq bz,U⟩ ?_))))
 refine aL (ao 3 tb Y (sq (.agg (aS (⟨(G (c9 (bp (az bl) ((G ap k).a)) (cZ us)) j),(G (c9 (bp (az bl) ((G ap k).b)) (cZ us)) i)⟩:Pr))) Y Y (lb Y) (λa _ h=>gq (us:=[a.eval (.tmp 46),a.eval (.tmp 47)]) yN Y yz (b6 (h.get 1 Y) (b6 (h.get 0 Y) cM)) Y h.x) (sy (.agg (aS (da (⟨(G (c9 (bp (az bl) ((G ap k).a)) (cZ us)) j),(G (c9 (bp (az bl) ((G ap k).b)) (cZ us)) i)⟩:Pr)))) (λh=>cV (Hn V (⟨(G (c9 (bp (az bl) ((G ap k).a)) (cZ us)) j),(G (c9 (bp (az bl) ((G ap k).b)) (cZ us)) i)⟩:Pr)) (cO func144) Y (aK hS _ h.keep h.x) (h.x.1) (aq (h.get 0 Y) aN) (jo V h.x)) ?_)))
 refine kw (VQ [OB.set aB z2 (cZ us),OB.map aB (λz':List BA=>AV.rd (ai z')) z1 (az bl)]) (B5 (O:=I pre kk) (R:=([OB.set aB z2 (cZ us),OB.map aB (λz':List BA=>AV.rd (ai z')) z1 (az bl)]++R)) (xs:=[_]) (bv:=[.agg (aS (da (⟨(G (c9 (bp (az bl) ((G ap k).a)) (cZ us)) j),(G (c9 (bp (az bl) ((G ap k).b)) (cZ us)) i)⟩:Pr)))]) Y Y Y Y (lb Y) (λa w h=>(h.get 4 Y).lit) (λa w h=>aq (h.get 0 Y) aN) (λm' R' w1 vs hk Z hv=>hY m' R' pre (da (⟨(G (c9 (bp (az bl) ((G ap k).a)) (cZ us)) j),(G (c9 (bp (az bl) ((G ap k).b)) (cZ us)) i)⟩:Pr)) kk w1 vs (by rw[jU];exact UR hb1 hb2 aD) hk Z hv) (λq=>Qf [OB.set aB z2 (cZ us),OB.map aB (λz':List BA=>AV.rd (ai z')) z1 (az bl)] q) (λs3=>?_) (λz4=>?_))
 refine kw (yb [OB.set aB z2 (cZ us),OB.map aB (λz':List BA=>AV.rd (ai z')) z1 (az bl)]) (ao 1 tb Y (aA [0,7,8,9,10,11,12,13,14,15,16,17,18,19,20] pB Y (nx (cj 0 (λbd=>?_) λbd=>?_))))
 try simp at bd
 refine tw cK (tw cK (aX (λa w h=>wX s3 Y h)))
 exact False.elim (by simp at bd)
 refine kw (yb [OB.set aB z2 (cZ us),OB.map aB (λz':List BA=>AV.rd (ai z')) z1 (az bl)]) (ao 1 tb Y (aA [0,7,8,9,10,11,12,13,14,15,16,17,18,19,20] pB Y (nx (cj 0 (λbd=>?_) λbd=>?_))))
 exact False.elim (by simp at bd)
 try simp at bd
 refine ak (nx (aT tb V [1,2,3,4,5,6,7,8,9,10,11,12,13,1001] [.int (i+1:Nat),_] [0] [_,_,_,_,_,_,_,_,_,_,_,_,_,_] Y ⟨aM,U⟩ ?_))
 exact br (i+1,(pre++[(da (⟨(G (c9 (bp (az bl) ((G ap k).a)) (cZ us)) j),(G (c9 (bp (az bl) ((G ap k).b)) (cZ us)) i)⟩:Pr))]),z4) [0,1,2,3,4,5,6,7,8,9,10,11,12,13] ⟨oz,by rw[jU,A2 aD,<-append_assoc]⟩
 refine aW (nx (aT tb V (r9 [1001]) [.int (j+1:Nat),_] [0] fp Y ⟨aM,U⟩ ?_))
 exact br (j+1,pre,kk) (ml []) ⟨oz,by rw[jU,cS (xs:=(c9 (bp (az bl) (G ap k).b) (cZ us))) (k:=i) oz,tC hb2,<-append_assoc];rfl⟩
 refine aW (nx (aT tb V [1,2,3,4,5,1001] [.int (k+1:Nat),_] [0] U6 Y ⟨aM,U⟩ ?_))
 exact br (k+1,pre,kk) (r6 []) ⟨oz,by rw[bu,cS (xs:=(c9 (bp (az bl) (G ap k).a) (cZ us))) (k:=j) oz,tC hb1];rfl⟩
 refine aW (kw cK (kw cK (λa w h=>wV (Y) (by rw[ah,BN,cS oz]) kk Y h)))
end
end Go.Proofs.YtdfadihhfppjaaaGreatDoor
