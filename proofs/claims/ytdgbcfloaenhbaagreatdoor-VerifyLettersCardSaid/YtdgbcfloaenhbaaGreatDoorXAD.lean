/-
  CONTRACTS of the program: verdicts of theorems, of other proofs.
  THE ENGINE: rows of structs from given parts; a struct of a row and a verdict; verdicts compared.
  THE LAW's SAMPLE of verdicts, and its bounds (plain).
  CONTRACTS of the law of verdicts: its bounds, its sample, awake.
-/
import Derived.Test.YtdgbcfloaenhbaaGreatDoorXAC
set_option maxHeartbeats 8000000
set_option maxRecDepth 100000
namespace Go.Proofs.YtdgbcfloaenhbaaGreatDoor
open Go.RowKit
theorem ZaW:ZcD Tryz.prog 42 [.int .i64 0,.int .i64 0]:=⟨fun i=>(#[(0,1),(1,1)]:Array (Nat×Nat))[i]?,fun j hj=>by rcases j with _ | _ | j<;>first | rfl | (simp at hj;omega),fun parts=>by kernel_rfl⟩
theorem Zk4 {J:World→Prop} (hJ:Stab J) (d:Db) (n:Nat) (hn:n<d.frames.length) (hck:Zd1 d=0) (hw:∀ f∈d.frames,f.wide.length*32≤140737488351232) (hpl:∀ g∈d.frames,g.proof.length≤100000∧Zaf g.proof≤1000000000):Fn Tryz.prog J 30 [.agg (dbC d),.int (n:Nat)] (.agg (vdC (Zfx d n))):=by
 refine Zw (N:=22) Tryz.func30 rfl rfl (lb rfl) fun S w0 hS hJ0=>?_
 refine tw Yn ?_
 refine tsq ?_
 refine sq (.ptr (dbC d)) rfl rfl (lb rfl) (fun _ _ h=>Xb rfl (h.get 0 rfl) (Zq hS _ h.keep h.x _ (Nat.le_refl _)) (jo hJ h.x)) ?_
 refine ZV Zb0 hJ rfl rfl rfl (lb rfl) fun b1=>?_
 refine seK [0,1,3] [_,_,_] rfl ?_
 refine nx (Zk (ZN tb hJ [0,1,2,1001,1006] [_,_,_,.ptr (frC (ge d.frames n)),_,_,_] [3] [_,_,_,_,_] rfl ⟨iIx Xf,trivial⟩ ?_))
 refine ln 3 fun hl1=>?_
 refine cj 4 (fun hb1=>?_) fun hb1=>?_
 ·
  try simp at hb1
  refine tsq ?_
  refine sq (.agg (vdC (⟨0,0⟩:Int×Int))) rfl rfl (lb rfl) (fun _ _ h=>Yt (ps:=[]) (us:=[.int .i64 0,.int .i64 0]) ZaW rfl (by simp) Zew rfl (YD (.lit _ True.intro) (YD (.lit _ True.intro) ZI)) h.x) ?_
  refine ZF (b:=b1) (off:=0) (cs:=[.lit (.int .i64 0),.lit (.int .i64 0)]) (es:=[.lit (.int .i64 ((⟨0,0⟩:Int×Int).1)),.lit (.int .i64 ((⟨0,0⟩:Int×Int).2))]) (news:=[.lit (.int .i64 ((⟨0,0⟩:Int×Int).1)),.lit (.int .i64 ((⟨0,0⟩:Int×Int).2))]) hJ hJ0 QU rfl rfl rfl (lb rfl) rfl (fun a w h=>⟨(h.get 1 rfl),(h.get 0 rfl)⟩) ?_
  refine seK [1] [_] rfl ?_
  exact nx (Zg (fun a w h=>Zar (cs:=[.lit (.int .i64 ((⟨0,0⟩:Int×Int).1)),.lit (.int .i64 ((⟨0,0⟩:Int×Int).2))]) (m:=0) rfl Zbc h rfl rfl (show([.lit (.int .i64 ((⟨0,0⟩:Int×Int).1)),.lit (.int .i64 ((⟨0,0⟩:Int×Int).2))]:List CD)=[.lit (.int .i64 ((Zfx d n).1)),.lit (.int .i64 ((Zfx d n).2))]from by simp[Zfx,hb1])))
 ·
  try simp at hb1
  refine Zc (nx (Zk (fun a w h=>YG (γ:=Unit) (fun ix'=>([.agg (dbC d),.int (n:Nat),.ptr [Zgm d.frames],.rd (Zgm d.frames),.int (n:Nat),.ptr (frC (ge d.frames n)),.ptr [Zb ((ge d.frames n).proof)],.rd (Zb ((ge d.frames n).proof)),.agg (vdC (Zfp d.frames d.vars (ge d.frames n) (Zbf (d.frames.take n)) ((ge d.frames n).proof))),.any]:List AV).getD ix' .any) (fun ix'=>([true,true,true,true,true,true,true,true,true,true]:List Bool).getD ix' true) [(4,fun(g:Unit)=>.at b1 0)] (fun(j':Nat) (g:Unit)=>match j' with | 0=>[OB.var b1 [.lit (.int .i64 0),.lit (.int .i64 0)]] | _=>[OB.var b1 [.lit (.int .i64 ((Zfp d.frames d.vars (ge d.frames n) (Zbf (d.frames.take n)) ((ge d.frames n).proof)).1)),.lit (.int .i64 ((Zfp d.frames d.vars (ge d.frames n) (Zbf (d.frames.take n)) ((ge d.frames n).proof)).2))]]) (fun(k':Nat) (g:Unit)=>match k' with | 0=>undef | _=>undef) [9] 0 () (fun _=>rfl) h hJ Yl rfl rfl rfl rfl rfl rfl (fun j' g hj p hp=>by rcases j' with _ | _ | _ | j'<;>first | exact hp | exact List.mem_cons_of_mem _ hp | exact List.mem_cons_of_mem _ (List.mem_cons_of_mem _ hp) | (exfalso;omega)) ⟨?o3_1_0,⟨?o3_1_1,⟨?o3_1_2,⟨?o3_1_3,⟨?o3_1_4,⟨?o3_1_5,⟨?o3_1_6,⟨?o3_1_7,⟨?o3_1_8,⟨?o3_1_9,trivial⟩⟩⟩⟩⟩⟩⟩⟩⟩⟩ ⟨?e3_1_0,trivial⟩ ⟨.old 0 4 _ rfl rfl,trivial⟩ ?n3_1)))
  exact oX rfl fun hx hl=>Zbp Zfn rfl (hl.env 1 2 _ rfl rfl) (Nat.le_refl _) hx
  exact oX rfl fun hx hl=>YA rfl (hl.env 2 1 _ rfl rfl) hx
  exact oX rfl fun hx hl=>ZX Za9 rfl (hl.env 1 2 _ rfl rfl) hx
  exact oX rfl fun hx hl=>ZA Zih rfl (hl.D 2 15 rfl rfl) hx
  exact oX rfl fun hx hl=>YA rfl (hl.env 2 1 _ rfl rfl) hx
  exact oX rfl fun hx hl=>Yg (i:=(n:Int)) Xf rfl (hl.D 3 16 rfl rfl) (hl.D 4 17 rfl rfl) (Int.natCast_nonneg _) (Yu (xs:=d.frames) (k:=n) sfz) rfl hx
  exact oX rfl fun hx hl=>ZX ZjL rfl (hl.D 5 18 rfl rfl) hx
  exact oX rfl fun hx hl=>ZA YX rfl (hl.D 6 19 rfl rfl) hx
  exact oY rfl fun hk hx hl=>ZeN (Zk2 hJ (d:=d) (n:=n) (t:=((ge d.frames n).proof)) sfz (by exact Zrv hck) (by exact fun g hg=>⟨(Ze7 hck g hg).1,(Ze7 hck g hg).2.1⟩) (by exact ZjF (Zf4 _ (by omega)) (by omega)) (by exact(Ze7 hck _ (ZM (by omega))).2.2) (by exact hw) (by exact(hpl _ (ZM hn)).1) (by exact(hpl _ (ZM hn)).2)) Zr1 rfl (Zq hS _ hk hx) (hx.1) (Za (hl.D 0 13 rfl rfl) (Za (hl.D 1 14 rfl rfl) (Za (hl.D 7 20 rfl rfl) Ze))) (jo hJ hx)
  exact Zm rfl
  case e3_1_0=>exact⟨_,rfl,rfl,rfl,rfl,fun g _ w hk hx hl _=>(by obtain⟨us2,hv2,hr3⟩:=Zai (cs:=[.lit (.int .i64 ((Zfp d.frames d.vars (ge d.frames n) (Zbf (d.frames.take n)) ((ge d.frames n).proof)).1)),.lit (.int .i64 ((Zfp d.frames d.vars (ge d.frames n) (Zbf (d.frames.take n)) ((ge d.frames n).proof)).2))]) (hl.D 8 21 rfl rfl);exact Zr (Xn (off:=0) (cs:=[.lit (.int .i64 0),.lit (.int .i64 0)]) (news:=[.lit (.int .i64 ((Zfp d.frames d.vars (ge d.frames n) (Zbf (d.frames.take n)) ((ge d.frames n).proof)).1)),.lit (.int .i64 ((Zfp d.frames d.vars (ge d.frames n) (Zbf (d.frames.take n)) ((ge d.frames n).proof)).2))]) (es:=[.lit (.int .i64 ((Zfp d.frames d.vars (ge d.frames n) (Zbf (d.frames.take n)) ((ge d.frames n).proof)).1)),.lit (.int .i64 ((Zfp d.frames d.vars (ge d.frames n) (Zbf (d.frames.take n)) ((ge d.frames n).proof)).2))]) (us:=us2) hJ hJ0 QU rfl hk hx (hl.env 0 4 _ rfl rfl) (by rw[hv2];rfl) hr3 (lb rfl) rfl) fun v w' hp=>⟨g,rfl,fun _ _=>rfl,fun e=>(by cases e),hp⟩)⟩
  clear a w h
  intro _
  dsimp only[List.map]
  exact nx (Zg (fun a w h=>Zar (cs:=[.lit (.int .i64 ((Zfp d.frames d.vars (ge d.frames n) (Zbf (d.frames.take n)) ((ge d.frames n).proof)).1)),.lit (.int .i64 ((Zfp d.frames d.vars (ge d.frames n) (Zbf (d.frames.take n)) ((ge d.frames n).proof)).2))]) (m:=0) rfl Zbc h rfl rfl (show([.lit (.int .i64 ((Zfp d.frames d.vars (ge d.frames n) (Zbf (d.frames.take n)) ((ge d.frames n).proof)).1)),.lit (.int .i64 ((Zfp d.frames d.vars (ge d.frames n) (Zbf (d.frames.take n)) ((ge d.frames n).proof)).2))]:List CD)=[.lit (.int .i64 ((Zfx d n).1)),.lit (.int .i64 ((Zfx d n).2))]from by simp[Zfx,hb1])))
theorem Zlf {J:World→Prop} (hJ:Stab J) (d:Db) (z:Int) (hw:∀ f∈d.frames,f.wide.length*32≤140737488351232) (hG:Zab J) (hpl:∀ g∈d.frames,g.proof.length≤100000∧Zaf g.proof≤1000000000):Fn Tryz.prog J 13 [.agg (dbC d),.int z] (.tup [.agg (vdC ((ZdT d z).1)),.int ((ZdT d z).2)]):=by
 refine Zw (N:=17) Tryz.func13 rfl rfl (lb rfl) fun S w0 hS hJ0=>?_
 refine tw Yn ?_
 refine tsq ?_
 refine sq (.ptr (dbC d)) rfl rfl (lb rfl) (fun _ _ h=>Xb rfl (h.get 0 rfl) (Zq hS _ h.keep h.x _ (Nat.le_refl _)) (jo hJ h.x)) ?_
 refine ZV Zb0 hJ rfl rfl rfl (lb rfl) fun b1=>?_
 refine snK 1 tb rfl ?_
 refine seK [1,2,4] [_,_,_] rfl ?_
 refine nx (Zk (ZN tb hJ [0,1,2,1003] [_,_,.int (Zbm d z),_] [2] [_,_,_,_] rfl ⟨iFo hS hJ (Zld hJ (d:=d) (z:=z) (by exact hw) (by exact hG)) Zr9,trivial⟩ ?_))
 refine qso tb hJ [0,1,2,3,1001] [_,_] [_,_,_,_,_] ?_
 refine cj 4 (fun hb1=>?_) fun hb1=>?_
 try simp at hb1
 refine tsq ?_
 refine sq (.agg (vdC (⟨0,0⟩:Int×Int))) rfl rfl (lb rfl) (fun _ _ h=>Yt (ps:=[]) (us:=[.int .i64 0,.int .i64 0]) ZaW rfl (by simp) Zew rfl (YD (.lit _ True.intro) (YD (.lit _ True.intro) ZI)) h.x) ?_
 refine snK 1 tb rfl ?_
 refine ZF (b:=b1) (off:=0) (cs:=[.lit (.int .i64 0),.lit (.int .i64 0)]) (es:=[.lit (.int .i64 ((⟨0,0⟩:Int×Int).1)),.lit (.int .i64 ((⟨0,0⟩:Int×Int).2))]) (news:=[.lit (.int .i64 ((⟨0,0⟩:Int×Int).1)),.lit (.int .i64 ((⟨0,0⟩:Int×Int).2))]) hJ hJ0 QU rfl rfl rfl (lb rfl) rfl (fun a w h=>⟨(h.get 2 rfl),(h.get 1 rfl)⟩) ?_
 refine snK 1 tb rfl ?_
 refine seK [0,3] [_,_] rfl ?_
 exact nx (Zg (fun a w h=>ZeW (cs:=[.lit (.int .i64 ((⟨0,0⟩:Int×Int).1)),.lit (.int .i64 ((⟨0,0⟩:Int×Int).2))]) (m:=1) (q:=0) rfl Zbc h rfl rfl (show([.lit (.int .i64 ((⟨0,0⟩:Int×Int).1)),.lit (.int .i64 ((⟨0,0⟩:Int×Int).2))]:List CD)=[.lit (.int .i64 (((ZdT d z).1).1)),.lit (.int .i64 (((ZdT d z).1).2))]from by simp[ZdT,hb1]) rfl (eI (by simp[ZdT,hb1]))))
 try simp at hb1
 have ha:Zbm d z=0:=by simpa using hb1
 obtain⟨hck,hz0,hz1⟩:=Zpd ha
 refine tw (sa 2 rfl (show(.int z:AV)= .int (z.toNat:Nat)from congrArg AV.int (by omega))) ?_
 refine Zc (nx (tsq ?_))
 refine snK 2 tb rfl ?_
 refine sq (.agg (vdC (Zfx d z.toNat))) rfl rfl (lb rfl) (fun _ _ h=>ZeN (Zk4 hJ (d:=d) (n:=z.toNat) sfz (by exact hck) (by exact hw) (by exact hpl)) Zr8 rfl (Zq hS _ h.keep h.x) (h.x.1) (Za (h.get 1 rfl) (Za (h.get 0 rfl) Ze)) (jo hJ h.x)) ?_
 refine ZF (b:=b1) (off:=0) (cs:=[.lit (.int .i64 0),.lit (.int .i64 0)]) (es:=[.lit (.int .i64 ((Zfx d z.toNat).1)),.lit (.int .i64 ((Zfx d z.toNat).2))]) (news:=[.lit (.int .i64 ((Zfx d z.toNat).1)),.lit (.int .i64 ((Zfx d z.toNat).2))]) hJ hJ0 QU rfl rfl rfl (lb rfl) rfl (fun a w h=>⟨(h.get 3 rfl),(h.get 0 rfl)⟩) ?_
 refine snK 1 tb rfl ?_
 refine seK [0,4] [_,_] rfl ?_
 exact nx (Zg (fun a w h=>ZeW (cs:=[.lit (.int .i64 ((Zfx d z.toNat).1)),.lit (.int .i64 ((Zfx d z.toNat).2))]) (m:=1) (q:=0) rfl Zbc h rfl rfl (show([.lit (.int .i64 ((Zfx d z.toNat).1)),.lit (.int .i64 ((Zfx d z.toNat).2))]:List CD)=[.lit (.int .i64 (((ZdT d z).1).1)),.lit (.int .i64 (((ZdT d z).1).2))]from by simp[ZdT,hb1]) rfl (eI (by simp[ZdT,hb1]))))
theorem ZkT:∀(r:List Value) (s off:Nat) (pre old post:List Value),pre.length=off+s→old.length=r.length→
 (r.zipIdx s).foldl (fun(cs:Array Value) (x:Value×Nat)=>cs.setIfInBounds (off+x.2) x.1) (pre++old++post).toArray=(pre++r++post).toArray
 | [],s,off,pre,old,post,_,h2=>by
  have:old=[]:=List.length_eq_zero_iff.1 (by simpa using h2)
  subst this
  rfl
 | v::r,s,off,pre,old,post,h1,h2=>by
  match old,h2 with
  | u::old,h2=>
   rw[List.zipIdx_cons,List.foldl_cons]
   have e:((pre++u::old++post).toArray.setIfInBounds (off+s) v)=((pre++[v])++old++post).toArray:=by
    rw[List.setIfInBounds_toArray]
    congr 1
    rw[List.append_assoc,List.set_append_right _ _ (by omega),h1.symm,Nat.sub_self]
    simp
   rw[e,ZkT r (s+1) off (pre++[v]) old post (by simp;omega) (by simpa using h2)]
   simp
theorem Zgs {k:Nat}:∀(rows:List (List Value)) (i:Nat) (pre z:List Value),pre.length=i*k→z.length=rows.length*k→(∀ r∈rows,r.length=k)→
 Instr.fill (fun i=>some (i*k,k)) (pre++z).toArray ((rows.zipIdx i).map fun p=>(p.2,Value.agg p.1.toArray))=some (pre++rows.flatten).toArray
 | [],i,pre,z,_,h2,_=>by
  have:z=[]:=List.length_eq_zero_iff.1 (by simpa using h2)
  subst this
  simp[Instr.fill]
 | r::rows,i,pre,z,h1,h2,h3=>by
  have hr:=h3 r (by simp)
  have hz:z.length=k+rows.length*k:=by rw[h2,List.length_cons,Nat.succ_mul,Nat.add_comm]
  have hcell:(Value.agg r.toArray).cells=r.toArray:=rfl
  simp only[List.zipIdx_cons,List.map_cons,Instr.fill,hcell]
  rw[if_neg (by simp[hr];omega)]
  have e:(Array.foldl (fun cs (x:Value×Nat)=>cs.setIfInBounds (i*k+x.snd) x.fst) (pre++z).toArray r.toArray.zipIdx)=((pre++r)++z.drop k).toArray:=by
   have:=ZkT r 0 (i*k) pre (z.take k) (z.drop k) h1 (by rw[List.length_take];omega)
   rw[List.append_assoc pre,List.take_append_drop]at this
   rw[←this]
   simp
  rw[e,Zgs rows (i+1) (pre++r) (z.drop k) (by rw[List.length_append,h1,hr,Nat.succ_mul]) (by rw[List.length_drop];omega) fun q hq=>h3 q (by simp[hq])]
  simp
section
variable {n:Rn} {N:Nat} {P:Program} {J X:World→Prop} {S S' S'':Nat→Prop} {O:List OB} {w0:World} {env:List (Nat×AV)} {Q:Exit→Act→World→Prop}
variable {o:Oper} {a:Act} {w:World} {t e u:TypeId} {x y:Operand}
theorem ZkI {k:Nat}:∀ {cs:List (List CD)} {vs:List Value},RelL S w (cs.map AV.agg) vs→(∀ r∈cs,r.length=k)→
 ∃ us:List (List Value),vs=us.map (fun r=>Value.agg r.toArray)∧us.length=cs.length∧(∀ r∈us,r.length=k)∧RdL S w cs.flatten us.flatten
 | [],vs,h,_=>by
  simp only[List.map_nil,RelL]at h
  subst h
  exact⟨[],rfl,rfl,by simp,trivial⟩
 | c::cs,vs,h,hk=>by
  simp only[List.map_cons,RelL]at h
  obtain⟨v,vs',rfl,h1,h2⟩:=h
  simp only[Rel]at h1
  obtain⟨u,rfl,hr⟩:=h1
  obtain⟨us,rfl,hl,hk2,hr2⟩:=ZkI (cs:=cs) h2 fun r hr=>hk r (by simp[hr])
  refine⟨u::us,rfl,by simp[hl],fun r hr3=>?_,?_⟩
  · rcases List.mem_cons.1 hr3 with rfl | hr3
    · rw[hr.length];exact hk c (by simp)
    · exact hk2 r hr3
  · rw[List.flatten_cons,List.flatten_cons]
    exact hr.append hr2
theorem Zh5 {k m:Nat} {cs:List (List CD)} {vs:List Value} {z:Array Value} {parts:Array (Nat×Operand)} (ht:Yd P t e k) (hz:∀ w,(zeroValue e).run P w= .ok (.agg z) w) (hop:o.op= .buildSlice t m parts) (hp:(parts.map fun(i,x)=>(i,a.eval x)).toList=vs.zipIdx.map fun p=>(p.2,p.1)) (h:RelL S w (cs.map AV.agg) vs) (hk:∀ r∈cs,r.length=k) (hl:cs.length=m) (h1:1≤k) (hm:1≤m*k) (hm2:m*k≤16777216)
 (hS:S w.heap.size) (hx:∀ w',Keeps All w w'→X w'):Z4 n P o a w (Yp S X (.rd (.sl cs)) w):=by
 obtain⟨us,rfl,hul,huk,hall⟩:=ZkI h hk
 have hfl:us.flatten.length=m*k:=by
  have:∀ us:List (List Value),(∀ r∈us,r.length=k)→us.flatten.length=us.length*k:=by
   intro us
   induction us with
   | nil=>simp
   | cons r us ih=>intro h;rw[List.flatten_cons,List.length_append,h r (by simp),ih fun q hq=>h q (by simp[hq]),List.length_cons,Nat.succ_mul,Nat.add_comm]
  rw[this us huk,hul,hl]
 have hf:=Zgs us 0 [] ((List.range (m*k)).map (z[· %z.size]!)) (by simp) (by simp[hul,hl]) huk
 have hf2:Instr.fill (fun i=>some (i*k,k)) ((Array.range (m*k)).map (z[· %z.size]!)) (parts.map fun(i,x)=>(i,a.eval x)).toList=some us.flatten.toArray:=by
  rw[hp,List.zipIdx_map,List.map_map]
  have e:(Array.range (m*k)).map (z[· %z.size]!)=([]++(List.range (m*k)).map (z[· %z.size]!)).toArray:=by
   apply Array.ext'
   simp[Array.toList_range]
  rw[e]
  exact hf
 have hk':Keeps All w (w.alloc (.cells us.flatten.toArray e)):=(Keeps.refl _ _).alloc _
 refine ZP (v:=.slice (some ⟨w.heap.size,0,none⟩) m m) (w':=w.alloc (.cells us.flatten.toArray e)) ?_ ⟨?_,hk',hx _ hk'⟩
 · have hcz:(Value.agg z).cells=z:=rfl
   rw[execOp,hop]
   simp only[Sem.run_bind,Instr.buildSlice,run_underlying ht.1,Result.andThen_ok,ht.2 w]
   simp[newRow,newObj]
   rw[hz w]
   simp only[Result.andThen_ok,hcz]
   have hf3:=hf2
   simp only[Array.toList_map]at hf3
   simp only[hf3]
   rw[if_neg (by omega),if_neg (by omega)]
   rfl
 · simp only[Rel]
   rw[show(m:Nat)=cs.length from hl.symm]
   refine Rd.of_cells (n:=k) (us:=us.flatten) (Nat.le_refl _) (by rw[hl];exact Nat.le_trans (Nat.le_mul_of_pos_right m h1) (Nat.le_trans hm2 (by decide))) (by simp) hS hk (hall.keep hk' fun _ _ _=>trivial) fun j u hj=>QQ j u hj
def ZmX (P:Program) (t:TypeId):Prop:=∀(ad:Option Addr) (k c:Nat) (p q:Int),P.built t [(0,.slice ad k c),(1,.agg #[.int .i64 p,.int .i64 q])]=some #[.slice ad k c,.int .i64 p,.int .i64 q]
theorem Zfm {c d:Int} {v:Value} (h:Rel S w (.agg [.lit (.int .i64 c),.lit (.int .i64 d)]) v):v= .agg #[.int .i64 c,.int .i64 d]:=by
 simp only[Rel]at h
 obtain⟨us,rfl,hr⟩:=h
 match us,hr with
 | [p,q],hr=>
  obtain rfl:=hr.1.of_lit
  obtain rfl:=hr.2.1.of_lit
  rfl
theorem ZaI {xs:List ByteArray} {p q:Int} (ht:ZmX P t) (hop:o.op= .build t #[(0,x),(1,y)]) (h1:Rel S w (.rd (Zb xs)) (a.eval x)) (h2:Rel S w (.agg [.lit (.int .i64 p),.lit (.int .i64 q)]) (a.eval y)) (hx:X w):
 Z4 n P o a w (Yp S X (.agg [Zb xs,.lit (.int .i64 p),.lit (.int .i64 q)]) w):=by
 have v2:=Zfm h2
 simp only[Rel]at h1
 have g1:=h1
 obtain⟨ad,cap,e1,_,_⟩:=g1.form
 have hrun:=run_build (P:=P) w t #[(0,a.eval x),(1,a.eval y)] #[a.eval x,.int .i64 p,.int .i64 q] (by rw[v2,e1];exact ht ad _ cap p q)
 refine Zu (v:=.agg #[a.eval x,.int .i64 p,.int .i64 q]) ?_ ?_ hx
 · rw[execOp,hop]
   simp only[List.map_toArray,List.map_cons,List.map_nil,Sem.run_bind,hrun]
   rfl
 · simp only[Rel]
   exact⟨[a.eval x,.int .i64 p,.int .i64 q],rfl,h1,.lit _ True.intro,.lit _ True.intro,trivial⟩
def EqVd (P:Program) (t:TypeId):Prop:=∀(a b c d:Int) (w:World) (x y:Operand),(eqGuard .eql t x y (.agg #[.int .i64 a,.int .i64 b]) (.agg #[.int .i64 c,.int .i64 d])).run P w= .ok () w∧(eqGuard .neq t x y (.agg #[.int .i64 a,.int .i64 b]) (.agg #[.int .i64 c,.int .i64 d])).run P w= .ok () w∧
 (Op.equal t (.agg #[.int .i64 a,.int .i64 b]) (.agg #[.int .i64 c,.int .i64 d])).run P w= .ok (decide (a=c)&&decide (b=d)) w
theorem r_neqV {c d c' d':Int} (ht:EqVd P t) (hop:o.op= .binOp .neq t x y u) (h1:Rel S w (.agg [.lit (.int .i64 c),.lit (.int .i64 d)]) (a.eval x)) (h2:Rel S w (.agg [.lit (.int .i64 c'),.lit (.int .i64 d')]) (a.eval y)) (hx:X w):
 Z4 n P o a w (Yp S X (.bool (!(decide (c=c')&&decide (d=d')))) w):=by
 obtain⟨_,g1,g3⟩:=ht c d c' d' w x y
 refine Zu (v:=.bool (!(decide (c=c')&&decide (d=d')))) ?_ (Rel.of_lit _) hx
 rw[execOp,hop]
 simp only[Zfm h1,Zfm h2,Sem.run_bind,g1,Result.andThen_ok,binOp,g3]
 rfl
end
end Go.Proofs.YtdgbcfloaenhbaaGreatDoor
namespace Go.Proofs.YtdgbcfloaenhbaaGreatDoor
structure Exm where
 proof:List ByteArray
 v:Int×Int
instance instInhExm:Inhabited Exm:=⟨⟨[],(0,0)⟩⟩
def exC (e:Exm):List CD:=[Zb e.proof,.lit (.int .i64 e.v.1),.lit (.int .i64 e.v.2)]
def exsC (l:List Exm):CD:=.sl (l.map exC)
def ZbY:ByteArray:=⟨#[119,112,104]⟩
def Zey:ByteArray:=⟨#[119,112,115]⟩
def Zay:ByteArray:=⟨#[97,120,45,49]⟩
def Zsu:ByteArray:=⟨#[119,102,102]⟩
def phT:ByteArray:=⟨#[112,104]⟩
def psT:ByteArray:=⟨#[112,115]⟩
def opT:ByteArray:=⟨#[40]⟩
def clT:ByteArray:=⟨#[41]⟩
def arT:ByteArray:=⟨#[45,62]⟩
def tuT:ByteArray:=⟨#[124,45]⟩
def exsD:List Exm:=[⟨[ZbY,Zey,Zay],(0,0)⟩,⟨[ZbY,Zay],(23,1)⟩,⟨[opT,Zay,clT,⟨#[65,66,67]⟩],(0,0)⟩,⟨[opT,clT,⟨#[65,66,68]⟩],(21,0)⟩,⟨[Zey,ZbY,Zay],(28,3)⟩]
def Zb7:Hy:=⟨ZbY,true,[Zsu,phT]⟩
def Zb6:Hy:=⟨Zey,true,[Zsu,psT]⟩
def smTx:List ByteArray:=[tuT,opT,phT,arT,opT,psT,arT,phT,clT,clT]
def Zsx:Fr:=⟨Zay,false,[Zb7,Zb6],[],smTx,[],[],[]⟩
def Zsw (p:List ByteArray):Fr:=⟨⟨#[116,104]⟩,true,[Zb7,Zb6],[],smTx,[],[],p⟩
def Z5 (p:List ByteArray):Db:=⟨[Zsu,tuT,opT,clT,arT],[phT,psT],[Zsx,Zsw p]⟩
theorem sam0:ZdT (Z5 (ge exsD 0).proof) 1=((ge exsD 0).v,0):=by kernel_rfl
theorem sam1:ZdT (Z5 (ge exsD 1).proof) 1=((ge exsD 1).v,0):=by kernel_rfl
theorem sam2:ZdT (Z5 (ge exsD 2).proof) 1=((ge exsD 2).v,0):=by kernel_rfl
theorem sam3:ZdT (Z5 (ge exsD 3).proof) 1=((ge exsD 3).v,0):=by kernel_rfl
theorem sam4:ZdT (Z5 (ge exsD 4).proof) 1=((ge exsD 4).v,0):=by kernel_rfl
theorem Zqt {k:Nat} (h:k<exsD.length):ZdT (Z5 (ge exsD k).proof) 1=((ge exsD k).v,0):=by
 have:k=0∨k=1∨k=2∨k=3∨k=4:=by
  have:exsD.length=5:=rfl
  omega
 rcases this with rfl | rfl | rfl | rfl | rfl
 · exact sam0
 · exact sam1
 · exact sam2
 · exact sam3
 · exact sam4

theorem sum_le {l:List ByteArray} {m:Nat} (h:∀ s∈l,s.size≤m):Zaf l≤l.length*m:=by
 induction l with
 | nil=>simp[Zaf]
 | cons s l ih=>
  have h1:=h s (by simp)
  have h2:=ih fun x hx=>h x (by simp[hx])
  simp only[Zaf,List.map_cons,List.sum_cons,List.length_cons,Nat.succ_mul]at h2 ⊢
  omega
theorem sam_hw (p:List ByteArray):∀ f∈(Z5 p).frames,f.wide.length*32≤140737488351232:=fun f hf=>by
 have:f=Zsx∨f=Zsw p:=by simpa [Z5]using hf
 rcases this with rfl | rfl<;>exact Nat.zero_le _
theorem sam_pl {k:Nat} (hk:k<exsD.length):∀ g∈(Z5 (ge exsD k).proof).frames,g.proof.length≤100000∧Zaf g.proof≤1000000000:=fun g hg=>by
 have:g=Zsx∨g=Zsw (ge exsD k).proof:=by simpa [Z5]using hg
 have hk2:k=0∨k=1∨k=2∨k=3∨k=4:=by
  have:exsD.length=5:=rfl
  omega
 rcases this with rfl | rfl
 · exact⟨Nat.zero_le _,Nat.zero_le _⟩
 · rcases hk2 with rfl | rfl | rfl | rfl | rfl<;>exact⟨of_decide_eq_true (by kernel_rfl),of_decide_eq_true (by kernel_rfl)⟩
end Go.Proofs.YtdgbcfloaenhbaaGreatDoor
set_option maxHeartbeats 8000000
set_option maxRecDepth 100000
namespace Go.Proofs.YtdgbcfloaenhbaaGreatDoor
open Go.RowKit
theorem ZgA:ZcD Tryz.prog 70 [.string ⟨#[]⟩,.bool false,.slice none 0 0,.slice none 0 0,.slice none 0 0,.slice none 0 0,.slice none 0 0,.slice none 0 0]:=⟨fun i=>(#[(0,1),(1,1),(2,1),(3,1),(4,1),(5,1),(6,1),(7,1)]:Array (Nat×Nat))[i]?,fun j hj=>by rcases j with _ | _ | _ | _ | _ | _ | _ | _ | j<;>first | rfl | (simp at hj;omega),fun parts=>by kernel_rfl⟩
theorem Q8:ZmX Tryz.prog 43:=fun ad k c p q=>by kernel_rfl
theorem Zkp:Tryz.prog.underlying 3=some (.int .i64):=by kernel_rfl
theorem Zqf:Tryz.prog.underlying 27=some (.int .i64):=by kernel_rfl
theorem Zki:(Tryz.prog.fieldsOf 42).toList=[{ name:= "Code",type:=27,offset:=0,embedded:=false,tag:= "",pkgPath:= "",byteOffset:=0 }, { name:= "Step",type:=3,offset:=1,embedded:=false,tag:= "",pkgPath:= "",byteOffset:=8 }]:=by kernel_rfl
theorem Zkh:Tryz.prog.underlying 42=some (.struct (Tryz.prog.fieldsOf 42)):=by kernel_rfl
theorem Zcn (c:Array Value) (i:Nat) (v:Value) (h:c[i]?=some v) (w:World):(part 3 c i).run Tryz.prog w= .ok v w:=by
 simp[part,Tryz.isAgg3,h]
theorem ZfC (c:Array Value) (i:Nat) (v:Value) (h:c[i]?=some v) (w:World):(part 27 c i).run Tryz.prog w= .ok v w:=by
 simp[part,Tryz.isAgg27,h]
theorem eqVd:EqVd Tryz.prog 42:=by
 intro a b c d w x y
 refine⟨by simp[eqGuard],by simp[eqGuard],?_⟩
 unfold Op.equal Op.maxDepth
 rw[run_equalIn_struct w 9999 42 _ _ Zkh (by kernel_rfl),Zki]
 have e1:=fun(c:Array Value) (v:Value) (i:Nat) (h:c[i]?=some v)=>ZfC c i v h
 have e2:=fun(c:Array Value) (v:Value) (i:Nat) (h:c[i]?=some v)=>Zcn c i v h
 have q1:(Op.equalIn 9999 27 (.int .i64 a) (.int .i64 c)).run Tryz.prog w= .ok (decide (a=c)) w:=run_equalIn_int w 9998 27 .i64 .i64 a c Zqf
 have q2:(Op.equalIn 9999 3 (.int .i64 b) (.int .i64 d)).run Tryz.prog w= .ok (decide (b=d)) w:=run_equalIn_int w 9998 3 .i64 .i64 b d Zkp
 simp only[Op.eqFields]
 rw[if_pos (by decide),if_pos (by decide)]
 simp only[Sem.run_bind]
 rw[e1 _ (.int .i64 a) 0 rfl w,Result.andThen_ok,e1 _ (.int .i64 c) 0 rfl w,Result.andThen_ok,q1,Result.andThen_ok]
 by_cases h1:a=c
 · simp only[h1,decide_true,Bool.not_true,Bool.false_eq_true,if_false,Sem.run_bind]
   rw[e2 _ (.int .i64 b) 1 rfl w,Result.andThen_ok,e2 _ (.int .i64 d) 1 rfl w,Result.andThen_ok,q2,Result.andThen_ok]
   by_cases h2:b=d
   · simp[h2,Sem.run_pure]
   · simp[h2,Sem.run_pure]
 · simp[h1,Sem.run_pure]
theorem Zm7 {J:World→Prop} (hJ:Stab J) (p:List ByteArray)  :Fn Tryz.prog J 14 [.rd (Zb p)] (.agg (dbC (Z5 p))):=by
 refine Zw (N:=26) Tryz.func14 rfl rfl (lb rfl) fun S w0 hS hJ0=>?_
 refine tw Yn ?_
 refine ln 0 fun hl1=>?_
 refine tsq ?_
 refine ZV ZgS hJ rfl rfl rfl (lb rfl) fun b1=>?_
 refine seK [0,1] [_,_] rfl ?_
 refine nx (tsq ?_)
 refine sq (.rd (Zb ([Zsu,phT]:List ByteArray))) rfl rfl (lb rfl) (fun a _ h=>Y8 (k:=2) (us:=[a.eval (Go.Operand.const (Go.Value.string { data:= #[119,102,102] })),a.eval (Go.Operand.const (Go.Value.string { data:= #[112,104] }))]) Zi Xq rfl (by simp) (Zj (Rel.of_lit (Go.Value.string { data:= #[119,102,102] }) (lb rfl)) (Zj (Rel.of_lit (Go.Value.string { data:= #[112,104] }) (lb rfl)) ZI)) rfl (by decide) (by decide) (Zq hS _ h.keep h.x _ (Nat.le_refl _)) (jo hJ h.x)) ?_
 refine sq (.agg (hyC (Zb7))) rfl rfl (lb rfl) (fun a _ h=>Qd (us:=[a.eval (Go.Operand.const (Go.Value.string { data:= #[119,112,104] })),a.eval (Go.Operand.const (Go.Value.bool true)),a.eval (Go.Operand.tmp 6)]) Zeu rfl (by simp) (Zj (Rel.of_lit (Go.Value.string { data:= #[119,112,104] }) (lb rfl)) (Zj (Rel.of_lit (Go.Value.bool true)) (Zj (h.get 0 rfl) ZI))) rfl h.x) ?_
 refine sq (.rd (Zb ([Zsu,psT]:List ByteArray))) rfl rfl (lb rfl) (fun a _ h=>Y8 (k:=2) (us:=[a.eval (Go.Operand.const (Go.Value.string { data:= #[119,102,102] })),a.eval (Go.Operand.const (Go.Value.string { data:= #[112,115] }))]) Zi Xq rfl (by simp) (Zj (Rel.of_lit (Go.Value.string { data:= #[119,102,102] }) (lb rfl)) (Zj (Rel.of_lit (Go.Value.string { data:= #[112,115] }) (lb rfl)) ZI)) rfl (by decide) (by decide) (Zq hS _ h.keep h.x _ (Nat.le_refl _)) (jo hJ h.x)) ?_
 refine sq (.agg (hyC (Zb6))) rfl rfl (lb rfl) (fun a _ h=>Qd (us:=[a.eval (Go.Operand.const (Go.Value.string { data:= #[119,112,115] })),a.eval (Go.Operand.const (Go.Value.bool true)),a.eval (Go.Operand.tmp 8)]) Zeu rfl (by simp) (Zj (Rel.of_lit (Go.Value.string { data:= #[119,112,115] }) (lb rfl)) (Zj (Rel.of_lit (Go.Value.bool true)) (Zj (h.get 0 rfl) ZI))) rfl h.x) ?_
 refine ZV Yz hJ rfl rfl rfl (lb rfl) fun b2=>?_
 refine ZV Yz hJ rfl rfl rfl (lb rfl) fun b3=>?_
 refine kw pm1 ?_
 refine ZF (b:=b2) (off:=0) (cs:=[.lit (.string (⟨#[]⟩:ByteArray)),.lit (.bool false),Zb ([]:List ByteArray)]) (es:=[.lit (.string ((Zb7).label)),.lit (.bool ((Zb7).floating)),Zb ((Zb7).text)]) (news:=[.lit (.string ((Zb7).label)),.lit (.bool ((Zb7).floating)),Zb ((Zb7).text)]) hJ hJ0 YO rfl rfl rfl (lb rfl) rfl (fun a w h=>⟨(h.get 1 rfl),(h.get 4 rfl)⟩) ?_
 refine kw pm1 ?_
 refine ZF (b:=b3) (off:=0) (cs:=[.lit (.string (⟨#[]⟩:ByteArray)),.lit (.bool false),Zb ([]:List ByteArray)]) (es:=[.lit (.string ((Zb6).label)),.lit (.bool ((Zb6).floating)),Zb ((Zb6).text)]) (news:=[.lit (.string ((Zb6).label)),.lit (.bool ((Zb6).floating)),Zb ((Zb6).text)]) hJ hJ0 YO rfl rfl rfl (lb rfl) rfl (fun a w h=>⟨(h.get 0 rfl),(h.get 2 rfl)⟩) ?_
 refine seK [0,1,3,5,6,7] [_,_,_,_,_,_] rfl ?_
 refine nx (ln 2 fun hl2=>?_)
 refine ln 3 fun hl3=>?_
 refine ZN tb hJ [0,1,4,5,1000,1001] [.rd (Zb (smTx)),_] [0] [_,_,_,_,_,_] rfl ⟨fun a _ hk hx _ _=>Y8 (k:=10) (us:=[a.eval (Go.Operand.const (Go.Value.string { data:= #[124,45] })),a.eval (Go.Operand.const (Go.Value.string { data:= #[40] })),a.eval (Go.Operand.const (Go.Value.string { data:= #[112,104] })),a.eval (Go.Operand.const (Go.Value.string { data:= #[45,62] })),a.eval (Go.Operand.const (Go.Value.string { data:= #[40] })),a.eval (Go.Operand.const (Go.Value.string { data:= #[112,115] })),a.eval (Go.Operand.const (Go.Value.string { data:= #[45,62] })),a.eval (Go.Operand.const (Go.Value.string { data:= #[112,104] })),a.eval (Go.Operand.const (Go.Value.string { data:= #[41] })),a.eval (Go.Operand.const (Go.Value.string { data:= #[41] }))]) Zi Xq rfl (by simp) (Zj (Rel.of_lit (Go.Value.string { data:= #[124,45] }) (lb rfl)) (Zj (Rel.of_lit (Go.Value.string { data:= #[40] }) (lb rfl)) (Zj (Rel.of_lit (Go.Value.string { data:= #[112,104] }) (lb rfl)) (Zj (Rel.of_lit (Go.Value.string { data:= #[45,62] }) (lb rfl)) (Zj (Rel.of_lit (Go.Value.string { data:= #[40] }) (lb rfl)) (Zj (Rel.of_lit (Go.Value.string { data:= #[112,115] }) (lb rfl)) (Zj (Rel.of_lit (Go.Value.string { data:= #[45,62] }) (lb rfl)) (Zj (Rel.of_lit (Go.Value.string { data:= #[112,104] }) (lb rfl)) (Zj (Rel.of_lit (Go.Value.string { data:= #[41] }) (lb rfl)) (Zj (Rel.of_lit (Go.Value.string { data:= #[41] }) (lb rfl)) ZI)))))))))) rfl (by decide) (by decide) (Zq hS _ hk hx _ (Nat.le_refl _)) (jo hJ hx),trivial⟩ ?_
 refine ln 4 fun hl4=>?_
 refine tsq ?_
 refine sq (.rd (Zb ([Zsu,tuT,opT,clT,arT]:List ByteArray))) rfl rfl (lb rfl) (fun a _ h=>Y8 (k:=5) (us:=[a.eval (Go.Operand.const (Go.Value.string { data:= #[119,102,102] })),a.eval (Go.Operand.const (Go.Value.string { data:= #[124,45] })),a.eval (Go.Operand.const (Go.Value.string { data:= #[40] })),a.eval (Go.Operand.const (Go.Value.string { data:= #[41] })),a.eval (Go.Operand.const (Go.Value.string { data:= #[45,62] }))]) Zi Xq rfl (by simp) (Zj (Rel.of_lit (Go.Value.string { data:= #[119,102,102] }) (lb rfl)) (Zj (Rel.of_lit (Go.Value.string { data:= #[124,45] }) (lb rfl)) (Zj (Rel.of_lit (Go.Value.string { data:= #[40] }) (lb rfl)) (Zj (Rel.of_lit (Go.Value.string { data:= #[41] }) (lb rfl)) (Zj (Rel.of_lit (Go.Value.string { data:= #[45,62] }) (lb rfl)) ZI))))) rfl (by decide) (by decide) (Zq hS _ h.keep h.x _ (Nat.le_refl _)) (jo hJ h.x)) ?_
 refine sq (.rd (Zb ([phT,psT]:List ByteArray))) rfl rfl (lb rfl) (fun a _ h=>Y8 (k:=2) (us:=[a.eval (Go.Operand.const (Go.Value.string { data:= #[112,104] })),a.eval (Go.Operand.const (Go.Value.string { data:= #[112,115] }))]) Zi Xq rfl (by simp) (Zj (Rel.of_lit (Go.Value.string { data:= #[112,104] }) (lb rfl)) (Zj (Rel.of_lit (Go.Value.string { data:= #[112,115] }) (lb rfl)) ZI)) rfl (by decide) (by decide) (Zq hS _ h.keep h.x _ (Nat.le_refl _)) (jo hJ h.x)) ?_
 refine sq (.agg (hyC (Zb7))) rfl rfl (lb rfl) (fun _ _ h=>Yo (cs:=[.lit (.string ((Zb7).label)),.lit (.bool ((Zb7).floating)),Zb ((Zb7).text)]) (ds:=[.lit (.string ((Zb7).label)),.lit (.bool ((Zb7).floating)),Zb ((Zb7).text)]) X7 rfl (Zd h.x (mo 1 rfl)) (h.get 3 rfl) rfl rfl h.x) ?_
 refine sq (.agg (hyC (Zb6))) rfl rfl (lb rfl) (fun _ _ h=>Yo (cs:=[.lit (.string ((Zb6).label)),.lit (.bool ((Zb6).floating)),Zb ((Zb6).text)]) (ds:=[.lit (.string ((Zb6).label)),.lit (.bool ((Zb6).floating)),Zb ((Zb6).text)]) X7 rfl (Zd h.x (mo 0 rfl)) (h.get 3 rfl) rfl rfl h.x) ?_
 refine sq (.rd (XW ([Zb7,Zb6]))) rfl rfl (lb rfl) (fun a _ h=>Zh5 (z:= #[.string ⟨#[]⟩,.bool false,.slice none 0 0]) (cs:=[hyC (Zb7),hyC (Zb6)]) (vs:=[a.eval (Go.Operand.tmp 13),a.eval (Go.Operand.tmp 14)]) ZK (fun w=>by kernel_rfl) rfl (by simp) (Za (h.get 1 rfl) (Za (h.get 0 rfl) Ze)) (of_decide_eq_true rfl) rfl (by decide) (by decide) (by decide) (Zq hS _ h.keep h.x _ (Nat.le_refl _)) (jo hJ h.x)) ?_
 refine snK 1 tb rfl ?_
 refine sq (.agg (frC (Zsx))) rfl rfl (lb rfl) (fun a _ h=>Yt (ps:=[(0,a.eval (Go.Operand.const (Go.Value.string { data:= #[97,120,45,49] }))),(2,a.eval (Go.Operand.tmp 15)),(4,a.eval (Go.Operand.tmp 16))]) (us:=[a.eval (Go.Operand.const (Go.Value.string { data:= #[97,120,45,49] })),.bool false,a.eval (Go.Operand.tmp 15),.slice none 0 0,a.eval (Go.Operand.tmp 16),.slice none 0 0,.slice none 0 0,.slice none 0 0]) ZgA rfl (by simp) (ZdR (lb rfl) rfl (ZdR (lb rfl) (Rel.oneC (h.get 1 rfl)) (ZdR (lb rfl) (Rel.oneC (h.get 0 rfl)) Zew))) rfl (Zj (Rel.of_lit (Go.Value.string { data:= #[97,120,45,49] }) (lb rfl)) (YD (.lit _ True.intro) (Zj (h.get 1 rfl) (YD (.nil _ _ (Nat.zero_le _)) (Zj (h.get 0 rfl) (YD (.nil _ _ (Nat.zero_le _)) (YD (.nil _ _ (Nat.zero_le _)) (YD (.nil _ _ (Nat.zero_le _)) ZI)))))))) h.x) ?_
 refine sq (.agg (hyC (Zb7))) rfl rfl (lb rfl) (fun _ _ h=>Yo (cs:=[.lit (.string ((Zb7).label)),.lit (.bool ((Zb7).floating)),Zb ((Zb7).text)]) (ds:=[.lit (.string ((Zb7).label)),.lit (.bool ((Zb7).floating)),Zb ((Zb7).text)]) X7 rfl (Zd h.x (mo 1 rfl)) (h.get 8 rfl) rfl rfl h.x) ?_
 refine sq (.agg (hyC (Zb6))) rfl rfl (lb rfl) (fun _ _ h=>Yo (cs:=[.lit (.string ((Zb6).label)),.lit (.bool ((Zb6).floating)),Zb ((Zb6).text)]) (ds:=[.lit (.string ((Zb6).label)),.lit (.bool ((Zb6).floating)),Zb ((Zb6).text)]) X7 rfl (Zd h.x (mo 0 rfl)) (h.get 8 rfl) rfl rfl h.x) ?_
 refine sq (.rd (XW ([Zb7,Zb6]))) rfl rfl (lb rfl) (fun a _ h=>Zh5 (z:= #[.string ⟨#[]⟩,.bool false,.slice none 0 0]) (cs:=[hyC (Zb7),hyC (Zb6)]) (vs:=[a.eval (Go.Operand.tmp 18),a.eval (Go.Operand.tmp 19)]) ZK (fun w=>by kernel_rfl) rfl (by simp) (Za (h.get 1 rfl) (Za (h.get 0 rfl) Ze)) (of_decide_eq_true rfl) rfl (by decide) (by decide) (by decide) (Zq hS _ h.keep h.x _ (Nat.le_refl _)) (jo hJ h.x)) ?_
 refine snK 2 tb rfl ?_
 refine sq (.agg (frC (Zsw p))) rfl rfl (lb rfl) (fun a _ h=>Yt (ps:=[(0,a.eval (Go.Operand.const (Go.Value.string { data:= #[116,104] }))),(1,a.eval (Go.Operand.const (Go.Value.bool true))),(2,a.eval (Go.Operand.tmp 20)),(4,a.eval (Go.Operand.tmp 21)),(7,a.eval (Go.Operand.tmp 22))]) (us:=[a.eval (Go.Operand.const (Go.Value.string { data:= #[116,104] })),a.eval (Go.Operand.const (Go.Value.bool true)),a.eval (Go.Operand.tmp 20),.slice none 0 0,a.eval (Go.Operand.tmp 21),.slice none 0 0,.slice none 0 0,a.eval (Go.Operand.tmp 22)]) ZgA rfl (by simp) (ZdR (lb rfl) rfl (ZdR (lb rfl) rfl (ZdR (lb rfl) (Rel.oneC (h.get 2 rfl)) (ZdR (lb rfl) (Rel.oneC (h.get 1 rfl)) (ZdR (lb rfl) (Rel.oneC (h.get 0 rfl)) Zew))))) rfl (Zj (Rel.of_lit (Go.Value.string { data:= #[116,104] }) (lb rfl)) (Zj (Rel.of_lit (Go.Value.bool true)) (Zj (h.get 2 rfl) (YD (.nil _ _ (Nat.zero_le _)) (Zj (h.get 1 rfl) (YD (.nil _ _ (Nat.zero_le _)) (YD (.nil _ _ (Nat.zero_le _)) (Zj (h.get 0 rfl) ZI)))))))) h.x) ?_
 refine sq (.rd (Zgm ([Zsx,(Zsw p)]))) rfl rfl (lb rfl) (fun a _ h=>Zh5 (z:= #[.string ⟨#[]⟩,.bool false,.slice none 0 0,.slice none 0 0,.slice none 0 0,.slice none 0 0,.slice none 0 0,.slice none 0 0]) (cs:=[frC (Zsx),frC (Zsw p)]) (vs:=[a.eval (Go.Operand.tmp 17),a.eval (Go.Operand.tmp 23)]) Xf (fun w=>by kernel_rfl) rfl (by simp) (Za (h.get 6 rfl) (Za (h.get 0 rfl) Ze)) (of_decide_eq_true rfl) rfl (by decide) (by decide) (by decide) (Zq hS _ h.keep h.x _ (Nat.le_refl _)) (jo hJ h.x)) ?_
 refine sq (.agg (dbC (Z5 p))) rfl rfl (lb rfl) (fun a _ h=>Qd (us:=[a.eval (Go.Operand.tmp 11),a.eval (Go.Operand.tmp 12),a.eval (Go.Operand.tmp 24)]) Zj1 rfl (by simp) (Zj (h.get 13 rfl) (Zj (h.get 12 rfl) (Zj (h.get 0 rfl) ZI))) rfl h.x) ?_
 refine kw pm2 ?_
 refine ZF (b:=b1) (off:=0) (cs:=[Zb ([]:List ByteArray),Zb ([]:List ByteArray),Zgm ([]:List Fr)]) (es:=[Zb ((Z5 p).consts),Zb ((Z5 p).vars),Zgm ((Z5 p).frames)]) (news:=[Zb ((Z5 p).consts),Zb ((Z5 p).vars),Zgm ((Z5 p).frames)]) hJ hJ0 ZkG rfl rfl rfl (lb rfl) rfl (fun a w h=>⟨(h.get 17 rfl),(h.get 0 rfl)⟩) ?_
 refine seK [1,5,10,13,14,17] [_,_,_,_,_,_] rfl ?_
 refine nx (ln 0 fun hl5=>?_)
 refine ln 1 fun hl6=>?_
 refine ln 3 fun hl7=>?_
 refine ln 4 fun hl8=>?_
 exact Zg (fun a w h=>Zar (cs:=[Zb ((Z5 p).consts),Zb ((Z5 p).vars),Zgm ((Z5 p).frames)]) (m:=5) rfl Zfn h rfl rfl (show([Zb ((Z5 p).consts),Zb ((Z5 p).vars),Zgm ((Z5 p).frames)]:List CD)=[Zb ((Z5 p).consts),Zb ((Z5 p).vars),Zgm ((Z5 p).frames)]from rfl))
theorem Zkg {J:World→Prop} (hJ:Stab J)  (hG:Zab J):Fn Tryz.prog J 6 [] (.bool true):=by
 refine Zw (N:=42) Tryz.func6 rfl rfl (lb rfl) fun S w0 hS hJ0=>?_
 refine tw Yn ?_
 refine qso tb hJ [] [_] [] ?_
 refine Zk (Zk (Y3 tb hJ [1000,1003,1006,1009,1012,1015,1016,1017] [.rd (Zb ([ZbY,Zey,Zay]:List ByteArray)),.agg (vdC (⟨0,0⟩:Int×Int)),.agg (exC (⟨([ZbY,Zey,Zay]:List ByteArray),(⟨0,0⟩:Int×Int)⟩:Exm)),.rd (Zb ([ZbY,Zay]:List ByteArray)),.agg (vdC (⟨(23:Int),(1:Int)⟩:Int×Int)),.agg (exC (⟨([ZbY,Zay]:List ByteArray),(⟨(23:Int),(1:Int)⟩:Int×Int)⟩:Exm)),.rd (Zb ([opT,Zay,clT,(⟨#[65,66,67]⟩:ByteArray)]:List ByteArray)),.agg (vdC (⟨0,0⟩:Int×Int)),.agg (exC (⟨([opT,Zay,clT,(⟨#[65,66,67]⟩:ByteArray)]:List ByteArray),(⟨0,0⟩:Int×Int)⟩:Exm)),.rd (Zb ([opT,clT,(⟨#[65,66,68]⟩:ByteArray)]:List ByteArray)),.agg (vdC (⟨(21:Int),0⟩:Int×Int)),.agg (exC (⟨([opT,clT,(⟨#[65,66,68]⟩:ByteArray)]:List ByteArray),(⟨(21:Int),0⟩:Int×Int)⟩:Exm)),.rd (Zb ([Zey,ZbY,Zay]:List ByteArray)),.agg (vdC (⟨(28:Int),(3:Int)⟩:Int×Int)),.agg (exC (⟨([Zey,ZbY,Zay]:List ByteArray),(⟨(28:Int),(3:Int)⟩:Int×Int)⟩:Exm)),.rd (exsC ([(⟨([ZbY,Zey,Zay]:List ByteArray),(⟨0,0⟩:Int×Int)⟩:Exm),(⟨([ZbY,Zay]:List ByteArray),(⟨(23:Int),(1:Int)⟩:Int×Int)⟩:Exm),(⟨([opT,Zay,clT,(⟨#[65,66,67]⟩:ByteArray)]:List ByteArray),(⟨0,0⟩:Int×Int)⟩:Exm),(⟨([opT,clT,(⟨#[65,66,68]⟩:ByteArray)]:List ByteArray),(⟨(21:Int),0⟩:Int×Int)⟩:Exm),(⟨([Zey,ZbY,Zay]:List ByteArray),(⟨(28:Int),(3:Int)⟩:Int×Int)⟩:Exm)])),.int (([(⟨([ZbY,Zey,Zay]:List ByteArray),(⟨0,0⟩:Int×Int)⟩:Exm),(⟨([ZbY,Zay]:List ByteArray),(⟨(23:Int),(1:Int)⟩:Int×Int)⟩:Exm),(⟨([opT,Zay,clT,(⟨#[65,66,67]⟩:ByteArray)]:List ByteArray),(⟨0,0⟩:Int×Int)⟩:Exm),(⟨([opT,clT,(⟨#[65,66,68]⟩:ByteArray)]:List ByteArray),(⟨(21:Int),0⟩:Int×Int)⟩:Exm),(⟨([Zey,ZbY,Zay]:List ByteArray),(⟨(28:Int),(3:Int)⟩:Int×Int)⟩:Exm)]).length:Nat),_] [0,1,2,3,4,5,6,7,8,9,10,11,12,13,14,15,16] [_,_,_,_,_,_,_,_] rfl ⟨fun a _ hk hx _ _=>Y8 (k:=3) (us:=[a.eval (Go.Operand.const (Go.Value.string { data:= #[119,112,104] })),a.eval (Go.Operand.const (Go.Value.string { data:= #[119,112,115] })),a.eval (Go.Operand.const (Go.Value.string { data:= #[97,120,45,49] }))]) Zi Xq rfl (by simp) (Zj (Rel.of_lit (Go.Value.string { data:= #[119,112,104] }) (lb rfl)) (Zj (Rel.of_lit (Go.Value.string { data:= #[119,112,115] }) (lb rfl)) (Zj (Rel.of_lit (Go.Value.string { data:= #[97,120,45,49] }) (lb rfl)) ZI))) rfl (by decide) (by decide) (Zq hS _ hk hx _ (Nat.le_refl _)) (jo hJ hx),fun _ _ _ hx _ _=>Yt (ps:=[]) (us:=[.int .i64 0,.int .i64 0]) ZaW rfl (by simp) Zew rfl (YD (.lit _ True.intro) (YD (.lit _ True.intro) ZI)) hx,fun _ _ _ hx hl _=>ZaI (xs:=([ZbY,Zey,Zay]:List ByteArray)) Q8 rfl (hl.D 0 5 rfl rfl) (hl.D 1 6 rfl rfl) hx,fun a _ hk hx _ _=>Y8 (k:=2) (us:=[a.eval (Go.Operand.const (Go.Value.string { data:= #[119,112,104] })),a.eval (Go.Operand.const (Go.Value.string { data:= #[97,120,45,49] }))]) Zi Xq rfl (by simp) (Zj (Rel.of_lit (Go.Value.string { data:= #[119,112,104] }) (lb rfl)) (Zj (Rel.of_lit (Go.Value.string { data:= #[97,120,45,49] }) (lb rfl)) ZI)) rfl (by decide) (by decide) (Zq hS _ hk hx _ (Nat.le_refl _)) (jo hJ hx),fun a _ _ hx _ _=>Qd (us:=[a.eval (Go.Operand.const (Go.Value.int Go.IntKind.i64 23)),a.eval (Go.Operand.const (Go.Value.int Go.IntKind.i64 1))]) Zcg rfl (by simp) (Zj (Rel.of_lit (Go.Value.int Go.IntKind.i64 23)) (Zj (Rel.of_lit (Go.Value.int Go.IntKind.i64 1)) ZI)) rfl hx,fun _ _ _ hx hl _=>ZaI (xs:=([ZbY,Zay]:List ByteArray)) Q8 rfl (hl.D 3 8 rfl rfl) (hl.D 4 9 rfl rfl) hx,fun a _ hk hx _ _=>Y8 (k:=4) (us:=[a.eval (Go.Operand.const (Go.Value.string { data:= #[40] })),a.eval (Go.Operand.const (Go.Value.string { data:= #[97,120,45,49] })),a.eval (Go.Operand.const (Go.Value.string { data:= #[41] })),a.eval (Go.Operand.const (Go.Value.string { data:= #[65,66,67] }))]) Zi Xq rfl (by simp) (Zj (Rel.of_lit (Go.Value.string { data:= #[40] }) (lb rfl)) (Zj (Rel.of_lit (Go.Value.string { data:= #[97,120,45,49] }) (lb rfl)) (Zj (Rel.of_lit (Go.Value.string { data:= #[41] }) (lb rfl)) (Zj (Rel.of_lit (Go.Value.string { data:= #[65,66,67] }) (lb rfl)) ZI)))) rfl (by decide) (by decide) (Zq hS _ hk hx _ (Nat.le_refl _)) (jo hJ hx),fun _ _ _ hx _ _=>Yt (ps:=[]) (us:=[.int .i64 0,.int .i64 0]) ZaW rfl (by simp) Zew rfl (YD (.lit _ True.intro) (YD (.lit _ True.intro) ZI)) hx,fun _ _ _ hx hl _=>ZaI (xs:=([opT,Zay,clT,(⟨#[65,66,67]⟩:ByteArray)]:List ByteArray)) Q8 rfl (hl.D 6 11 rfl rfl) (hl.D 7 12 rfl rfl) hx,fun a _ hk hx _ _=>Y8 (k:=3) (us:=[a.eval (Go.Operand.const (Go.Value.string { data:= #[40] })),a.eval (Go.Operand.const (Go.Value.string { data:= #[41] })),a.eval (Go.Operand.const (Go.Value.string { data:= #[65,66,68] }))]) Zi Xq rfl (by simp) (Zj (Rel.of_lit (Go.Value.string { data:= #[40] }) (lb rfl)) (Zj (Rel.of_lit (Go.Value.string { data:= #[41] }) (lb rfl)) (Zj (Rel.of_lit (Go.Value.string { data:= #[65,66,68] }) (lb rfl)) ZI))) rfl (by decide) (by decide) (Zq hS _ hk hx _ (Nat.le_refl _)) (jo hJ hx),fun a _ _ hx _ _=>Yt (ps:=[(0,a.eval (Go.Operand.const (Go.Value.int Go.IntKind.i64 21)))]) (us:=[a.eval (Go.Operand.const (Go.Value.int Go.IntKind.i64 21)),.int .i64 0]) ZaW rfl (by simp) (ZdR (lb rfl) rfl Zew) rfl (Zj (Rel.of_lit (Go.Value.int Go.IntKind.i64 21)) (YD (.lit _ True.intro) ZI)) hx,fun _ _ _ hx hl _=>ZaI (xs:=([opT,clT,(⟨#[65,66,68]⟩:ByteArray)]:List ByteArray)) Q8 rfl (hl.D 9 14 rfl rfl) (hl.D 10 15 rfl rfl) hx,fun a _ hk hx _ _=>Y8 (k:=3) (us:=[a.eval (Go.Operand.const (Go.Value.string { data:= #[119,112,115] })),a.eval (Go.Operand.const (Go.Value.string { data:= #[119,112,104] })),a.eval (Go.Operand.const (Go.Value.string { data:= #[97,120,45,49] }))]) Zi Xq rfl (by simp) (Zj (Rel.of_lit (Go.Value.string { data:= #[119,112,115] }) (lb rfl)) (Zj (Rel.of_lit (Go.Value.string { data:= #[119,112,104] }) (lb rfl)) (Zj (Rel.of_lit (Go.Value.string { data:= #[97,120,45,49] }) (lb rfl)) ZI))) rfl (by decide) (by decide) (Zq hS _ hk hx _ (Nat.le_refl _)) (jo hJ hx),fun a _ _ hx _ _=>Qd (us:=[a.eval (Go.Operand.const (Go.Value.int Go.IntKind.i64 28)),a.eval (Go.Operand.const (Go.Value.int Go.IntKind.i64 3))]) Zcg rfl (by simp) (Zj (Rel.of_lit (Go.Value.int Go.IntKind.i64 28)) (Zj (Rel.of_lit (Go.Value.int Go.IntKind.i64 3)) ZI)) rfl hx,fun _ _ _ hx hl _=>ZaI (xs:=([Zey,ZbY,Zay]:List ByteArray)) Q8 rfl (hl.D 12 17 rfl rfl) (hl.D 13 18 rfl rfl) hx,fun a w hk hx hl _=>Zh5 (z:= #[.slice none 0 0,.int .i64 0,.int .i64 0]) (cs:=[exC (⟨([ZbY,Zey,Zay]:List ByteArray),(⟨0,0⟩:Int×Int)⟩:Exm),exC (⟨([ZbY,Zay]:List ByteArray),(⟨(23:Int),(1:Int)⟩:Int×Int)⟩:Exm),exC (⟨([opT,Zay,clT,(⟨#[65,66,67]⟩:ByteArray)]:List ByteArray),(⟨0,0⟩:Int×Int)⟩:Exm),exC (⟨([opT,clT,(⟨#[65,66,68]⟩:ByteArray)]:List ByteArray),(⟨(21:Int),0⟩:Int×Int)⟩:Exm),exC (⟨([Zey,ZbY,Zay]:List ByteArray),(⟨(28:Int),(3:Int)⟩:Int×Int)⟩:Exm)]) (vs:=[a.eval (Go.Operand.tmp 7),a.eval (Go.Operand.tmp 10),a.eval (Go.Operand.tmp 13),a.eval (Go.Operand.tmp 16),a.eval (Go.Operand.tmp 19)]) ZcA (fun w=>by kernel_rfl) rfl (by simp) (Za (hl.D 2 7 rfl rfl) (Za (hl.D 5 10 rfl rfl) (Za (hl.D 8 13 rfl rfl) (Za (hl.D 11 16 rfl rfl) (Za (hl.D 14 19 rfl rfl) Ze))))) (of_decide_eq_true rfl) rfl (by decide) (by decide) (by decide) (Zq hS _ hk hx _ (Nat.le_refl _)) (jo hJ hx),YK Zi2,trivial⟩ ?_))
 refine kw (sa 5 rfl (show(.rd (exsC ([(⟨([ZbY,Zey,Zay]:List ByteArray),(⟨0,0⟩:Int×Int)⟩:Exm),(⟨([ZbY,Zay]:List ByteArray),(⟨(23:Int),(1:Int)⟩:Int×Int)⟩:Exm),(⟨([opT,Zay,clT,(⟨#[65,66,67]⟩:ByteArray)]:List ByteArray),(⟨0,0⟩:Int×Int)⟩:Exm),(⟨([opT,clT,(⟨#[65,66,68]⟩:ByteArray)]:List ByteArray),(⟨(21:Int),0⟩:Int×Int)⟩:Exm),(⟨([Zey,ZbY,Zay]:List ByteArray),(⟨(28:Int),(3:Int)⟩:Int×Int)⟩:Exm)])):AV)= .rd (exsC exsD)from rfl)) ?_
 refine kw (sa 6 rfl (show(.int (([(⟨([ZbY,Zey,Zay]:List ByteArray),(⟨0,0⟩:Int×Int)⟩:Exm),(⟨([ZbY,Zay]:List ByteArray),(⟨(23:Int),(1:Int)⟩:Int×Int)⟩:Exm),(⟨([opT,Zay,clT,(⟨#[65,66,67]⟩:ByteArray)]:List ByteArray),(⟨0,0⟩:Int×Int)⟩:Exm),(⟨([opT,clT,(⟨#[65,66,68]⟩:ByteArray)]:List ByteArray),(⟨(21:Int),0⟩:Int×Int)⟩:Exm),(⟨([Zey,ZbY,Zay]:List ByteArray),(⟨(28:Int),(3:Int)⟩:Int×Int)⟩:Exm)]).length:Nat):AV)= .int (exsD.length:Nat)from rfl)) ?_
 refine nx (ln 0 fun hl1=>?_)
 refine ln 1 fun hl2=>?_
 refine ln 2 fun hl3=>?_
 refine ln 3 fun hl4=>?_
 refine ln 4 fun hl5=>?_
 refine ln 5 fun hl6=>?_
 refine Zf (lpo (ι:=Nat) (fun k=>(k≤exsD.length)) (fun _=>[]) (fun k=>[(22,.int (k:Nat))]) (fun k=>exsD.length-k) [5,6,7] [_,_] 0 (show(0≤exsD.length)from Nat.zero_le _) ?_)
 rintro k hF
 have f1_1:k≤exsD.length:=hF
 refine qso tb hJ [0,1,2,1000] [_] [_,_,_,_] ?_
 refine cjS 3 (fun hb1=>?_) fun hb1=>?_
 try simp at hb1
 refine Zc (nx (Zk (Zf (tsq ?_))))
 refine sq (.ptr (exC (ge exsD k))) rfl rfl (lb rfl) (fun _ _ h=>Yg (i:=(k:Int)) ZcA rfl (h.get 0 rfl) (h.get 2 rfl) (Int.natCast_nonneg _) (Yu (xs:=exsD) (k:=k) sfz) rfl h.x) ?_
 refine sq (.agg (exC (ge exsD k))) rfl rfl (lb rfl) (fun _ _ h=>Zbp Zpe rfl (h.get 0 rfl) (Nat.le_refl _) h.x) ?_
 refine X8 (cs:=exC (ge exsD k)) Zm9 rfl rfl rfl (lb rfl) rfl rfl rfl (by decide) (m:=0) rfl rfl (fun a w h=>Zq hS _ h.keep h.x _ (Nat.le_refl _)) (fun a w h w' hk'=>Yq hJ _ _ hk' h.x) ?_
 refine seK [0,3,4,5] [_,_,_,_] rfl ?_
 refine nx (tsq ?_)
 refine sq (.ptr (exC (ge exsD k))) rfl rfl (lb rfl) (fun _ _ h=>ZX ZjQ rfl (h.get 0 rfl) h.x) ?_
 refine snK 1 tb rfl ?_
 refine sq (.agg (dbC (Z5 ((ge exsD k).proof)))) rfl rfl (lb rfl) (fun _ _ h=>ZeN (Zm7 hJ (p:=((ge exsD k).proof)) ) Zsg rfl (Zq hS _ h.keep h.x) (h.x.1) (Za (h.get 0 rfl) Ze) (jo hJ h.x)) ?_
 refine sq (.tup [.agg (vdC ((ZdT (Z5 ((ge exsD k).proof)) (1:Int)).1)),.int ((ZdT (Z5 ((ge exsD k).proof)) (1:Int)).2)]) rfl rfl (lb rfl) (fun _ _ h=>ZeN (Zlf hJ (d:=(Z5 ((ge exsD k).proof))) (z:=(1:Int)) (by exact sam_hw _) (by exact hG) (by exact sam_pl (by omega))) Zsh rfl (Zq hS _ h.keep h.x) (h.x.1) (Za (h.get 0 rfl) (Za (Rel.of_lit (Go.Value.int Go.IntKind.i64 1)) Ze)) (jo hJ h.x)) ?_
 refine snK 3 tb rfl ?_
 refine X8 (cs:=vdC ((ZdT (Z5 ((ge exsD k).proof)) (1:Int)).1)) Zna rfl rfl rfl (lb rfl) rfl rfl rfl (by decide) (m:=1) rfl rfl (fun a w h=>Zq hS _ h.keep h.x _ (Nat.le_refl _)) (fun a w h w' hk'=>Yq hJ _ _ hk' h.x) ?_
 refine snK 1 tb rfl ?_
 refine seK [0,1,7,9,10,11,12] [_,_,_,_,_,_,_] rfl ?_
 refine nx (ln 2 fun hl7=>?_)
 refine ZN tb hJ [4,5,6,1007] [_,_,_,_,.ptr [.lit (.int .i64 ((ge exsD k).v.1)),.lit (.int .i64 ((ge exsD k).v.2))],_,.bool (!(decide (((ZdT (Z5 ((ge exsD k).proof)) (1:Int)).1).1=((ge exsD k).v.1))&&decide (((ZdT (Z5 ((ge exsD k).proof)) (1:Int)).1).2=((ge exsD k).v.2)))),_] [4,6] [_,_,_,_] rfl ⟨fun _ _ _ hx hl _=>ZX ZjP rfl (hl.env 3 2 _ rfl rfl) hx,fun _ _ _ hx hl hc=>r_neqV eqVd rfl (hl.D 3 36 rfl hc) (hl.D 5 38 rfl hc) hx,trivial⟩ ?_
 refine cj 3 (fun hb2=>?_) fun hb2=>?_
 try simp at hb2
 exact False.elim (by have h9:=Zqt (k:=k) (by omega);simp[h9]at hb2)
 try simp at hb2
 refine Zc (nx (Y3 tb hJ [0,1,1001] [.int (k+1:Nat),_] [0] [_,_,_] rfl ⟨Yw,trivial⟩ ?_))
 exact XB (k+1) [0,1,2] (show((k+1)≤exsD.length)from by omega)
 try simp at hb1
 refine ZB (nx (qso tb hJ [1000] [_] [_] ?_))
 exact Zg (Qt (m:=0) rfl rfl rfl)
end Go.Proofs.YtdgbcfloaenhbaaGreatDoor
