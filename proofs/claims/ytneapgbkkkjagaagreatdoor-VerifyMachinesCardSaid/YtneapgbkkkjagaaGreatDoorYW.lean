/-
  THE ENGINE: a difference of two lengths.
  THE ENGINE: a slice that was cut to its length (slices.Clip): an append to it makes a new row.
  CONTRACTS of the program: the machine's small functions.
  THE ENGINE: elements of the tail of an own row, by address; appends to what was clipped.
-/
import Derived.Test.YtneapgbkkkjagaaGreatDoorYV
namespace Go.Proofs.YtneapgbkkkjagaaGreatDoor
section
variable {n:Rn} {P:Program} {S:Nat→Prop} {X:WP} {o:Oper} {a:Act} {w:World} {t u:TypeId} {x y:Operand}
theorem ZnX {i j:Nat} (hop:o.op= .binOp .sub t x y u) (h1:Rel S w (.int (i:Int)) (a.eval x)) (h2:Rel S w (.int (j:Int)) (a.eval y)) (hl:j≤i) (hi:i≤9223372036854775807) (hx:X w):Yj n P o a w (YB S X (.int ((i-j:Nat):Int)) w):=by
 rw[show((i-j:Nat):Int)=(i:Int)-(j:Int) by omega]
 exact Zcn hop h1 h2 oz oz hx
end
end Go.Proofs.YtneapgbkkkjagaaGreatDoor
namespace Go.Proofs.YtneapgbkkkjagaaGreatDoor
open Go.RowKit
def OB.clp (v:Value) (rows:List (List CD)):OB where
 blk:=fun _=>False
 inv:=fun _ S w=>(∃ ad n,v= .slice ad n n)∧Rel S w (.rd (.sl rows)) v
 mv:=fun⟨h1,h2⟩ hk _ hs=>⟨h1,Rel.move hk hs h2⟩
 lt:=fun _ _ h=>h.elim
def Zfp:Value→Value
 | .slice ad n _=>.slice ad n n
 | v=>v
section
variable {n:Rn} {N:Nat} {P:Program} {J:WP} {S:Nat→Prop} {O:List OB} {w0:World} {env:List (Nat×AV)} {Q:Exit→Act→WP}
theorem ZuU {v:Value} {e:TypeId} {size:Nat} {rows:List (List CD)} {lo m:Nat} {T:Nat→Prop} {w:World} (hm:m≤rows.length) (h:(OB.row v e size rows).inv lo T w):(OB.row (Zcw v m) e size (rows.take m)).inv lo T w:=by
 obtain⟨us,⟨h0,h1⟩,h2,h3⟩:=h
 have hl:us.length=rows.length*size:=h0
 refine⟨us.take (m*size),⟨?_,?_⟩,?_,fun r hr=>h3 r (List.mem_of_mem_take hr)⟩
 · rw[List.length_take,List.length_take,hl,Nat.min_eq_left hm]
   exact Nat.min_eq_left (Nat.mul_le_mul_right _ hm)
 · rw[List.length_take,Nat.min_eq_left hm]
   rcases h1 with⟨rfl,hz⟩ | ⟨g,cap,cur,rfl,hb,hg,hnc,hcm,hcs,ht⟩
   · have:m=0:=by omega
     subst this
     exact .inl ⟨rfl,rfl⟩
   · refine .inr ⟨g,cap,cur,rfl,hb,hg,Nat.le_trans hm hnc,hcm,hcs,?_⟩
     rw[←ht,List.take_take,Nat.min_eq_left (Nat.mul_le_mul_right _ hm)]
 · have hf:(rows.take m).flatten=rows.flatten.take (m*size):=by
    have key:∀(rows:List (List CD)) (m:Nat),(∀ r∈rows,r.length=size)→m≤rows.length→(rows.take m).flatten=rows.flatten.take (m*size):=by
     intro rows
     induction rows with
     | nil=>intro m _ hm;simp at hm;subst hm;simp
     | cons r rs ih=>
      intro m hr hm
      cases m with
      | zero=>simp
      | succ m=>
       have hrl:=hr r yz
       simp only[List.take_succ_cons,List.flatten_cons]
       rw[ih m (fun q hq=>hr q (by simp[hq])) (by simpa using hm)]
       have e1:(m+1)*size=r.length+m*size:=by rw[hrl,Nat.succ_mul];omega
       rw[e1,List.take_length_add_append]
    exact key rows m h3 hm
   rw[hf]
   refine RdL.of_get (by rw[List.length_take,List.length_take,h2.length]) fun i c u hc hu=>?_
   rw[List.getElem?_take]at hc hu
   split at hc
   · rename_i hi
     rw[if_pos hi]at hu
     exact h2.get hc hu
   · cases hc
theorem st_cut {a:Act} {w:World} {v:Value} {e:TypeId} {size:Nat} {rows:List (List CD)} {m:Nat} (hm:m≤rows.length) (h:So J S w0 N (OB.row v e size rows::O) env a w):
 So J S w0 N (OB.row (Zcw v m) e size (rows.take m)::O) env a w:=by
 have hblk:∀ k,(OB.row (Zcw v m) e size (rows.take m)).blk k↔ (OB.row v e size rows).blk k:=fun k=>by
  show(Zcw v m).ownBlock=some k↔v.ownBlock=some k
  cases v with
  | slice ad l c=>cases ad<;>exact Iff.rfl
  | _=>exact Iff.rfl
 have hs:∀ k,SO S (OB.row v e size rows::O) k→SO S (OB.row (Zcw v m) e size (rows.take m)::O) k:=fun k hk=>⟨hk.1,fun p hp=>by
  rcases List.mem_cons.1 hp with rfl | hp
  · rw[hblk];exact hk.2 (OB.row v e size rows) yz
  · exact hk.2 p (by simp[hp])⟩
 have hpw:=List.pairwise_cons.1 h.x.2.2
 refine⟨h.defs,h.size,h.keep,⟨h.x.1,fun p hp=>?_,.cons (fun p hp k hk=>hpw.1 p hp k ((hblk k).1 hk)) hpw.2⟩,fun p hp=>⟨(h.env p hp).1,(h.env p hp).2.sub fun k _=>hs k⟩⟩
 rcases List.mem_cons.1 hp with rfl | hp
 · exact OB.sub (ZuU hm (h.x.2.1 (OB.row v e size rows) yz)) fun k _=>hs k
 · exact OB.sub (h.x.2.1 p (by simp[hp])) fun k _=>hs k
theorem Zut {w:World} {v:Value} {e:TypeId} {size:Nat} {rows:List (List CD)} (hS:∀ b,w0.heap.size≤b→S b) (hk:Keeps All w0 w) (hx:XO J S w0.heap.size (OB.row v e size rows::O) w):
 Zbp J S w0 (OB.row v e size rows::O) w (OB.clp (Zfp v) rows::O) w:=by
 have hi:=hx.2.1 (OB.row v e size rows) yz
 have hfree:∀ k,(OB.row v e size rows).blk k→SO S O k:=fun k hk=>⟨hS k ((OB.row v e size rows).lt hi k hk).1,fun p hp=>(List.pairwise_cons.1 hx.2.2).1 p hp k hk⟩
 have hsub:∀ k,SO S O k→SO S (OB.clp (Zfp v) rows::O) k:=fun k hk=>⟨hk.1,fun p hp=>by
  rcases List.mem_cons.1 hp with rfl | hp
  · exact fun e=>e
  · exact hk.2 p hp⟩
 refine⟨hk,⟨hx.1,fun p hp=>?_,.cons (fun _ _ _ e=>e.elim) (List.pairwise_cons.1 hx.2.2).2⟩,fun av u hr=>hr.sub fun k _ hk=>hsub k hk.drop⟩
 rcases List.mem_cons.1 hp with rfl | hp
 · refine OB.sub (S:=SO S O) ?_ fun k _=>hsub k
   have hr:=ZhL (fun k hk=>hfree k hk) (OB.sub hi fun k _ hk=>hk.drop)
   obtain⟨us,⟨h0,h1⟩,h2,h3⟩:=hi
   rcases h1 with⟨rfl,hz⟩ | ⟨g,cap,cur,rfl,hb,hg,hnc,hcm,hcs,ht⟩
   · exact⟨⟨_,_,rfl⟩,hr⟩
   · refine⟨⟨_,_,rfl⟩,?_⟩
     simp only[Zfp,Rel]
     refine Rd.of_cells (n:=size) (us:=us) nlr oz (Array.getElem?_eq_some_iff.1 hg).1 (hfree g rfl) h3 (h2.sub fun k _ hk=>hk.drop) fun j u hj=>?_
     have hc:=World.ownsRow.cells (w:=w) (base:=w0.heap.size) (e:=e) (size:=size) (v:=.slice (some ⟨g,0,none⟩) rows.length cap) (n:=rows.length) (xs:=us) ⟨h0,.inr ⟨g,cap,cur,rfl,hb,hg,hnc,hcm,hcs,ht⟩⟩ (g:=g) rfl j u hj
     rw[show(⟨g,0,none⟩:Addr).add j=⟨g,0+j,none⟩ by unfold Addr.add;split<;>simp_all]at hc
     exact hc
 · exact OB.sub (hx.2.1 p (by simp[hp])) fun k _ hk=>hsub k hk.drop
theorem ZlE {t e ty:TypeId} {size bytes:Nat} (ht:Zgw P t e size bytes) (hJ:Stab J) {w:World} (hk:Keeps All w0 w) {v:Value} {rows news:List (List CD)} {y:Value} (h:XO J S w0.heap.size (OB.clp v rows::O) w) (hrl:∀ r∈rows,r.length=size)
 (hy:Rel (SO S (OB.clp v rows::O)) w (.rd (.sl news)) y) (hn:∀ r∈news,r.length=size) (hpos:0<news.length) (h63:rows.length+news.length≤maxLen) (hb:(rows.length+news.length)*bytes≤140737488355328):
 ∃ v' w',(Builtin.append_ #[t,t] ty #[v,y]).run P w= .ok v' w'∧okLit v'∧Zbp J S w0 (OB.clp v rows::O) w (OB.row v' e size (rows++news)::O) w':=by
 obtain⟨ht,⟨i,z,hi,hz,his,hib,hzs⟩,hsz,hs⟩:=ht
 subst his
 subst hib
 have h63':rows.length+news.length≤9223372036854775807:=by simp only[maxLen]at h63;omega
 obtain⟨⟨ad,nn,rfl⟩,hr⟩:=h.2.1 (OB.clp v rows) yz
 simp only[Rel]at hy hr
 obtain⟨ad1,cap1,hv1,hlc1,hcm1⟩:=hr.form
 injection hv1 with e1 e2 e3
 subst e1
 subst e2
 obtain⟨ad2,cap2,rfl,hlc2,hcm2⟩:=hy.form
 obtain⟨b2,off2,rfl,_⟩:=hy.at (List.getElem?_eq_getElem hpos)
 obtain⟨nu,hnl,hnr,hnc⟩:=hy.flat hn hpos
 have htl:XO J S w0.heap.size O w:=⟨h.1,fun p hp=>OB.sub (h.2.1 p (by simp[hp])) fun _ _ hk=>hk.drop,(List.pairwise_cons.1 h.2.2).2⟩
 have fin:∀(os:List Value),os.length=rows.length*i.size→RdL (SO S (OB.clp (.slice ad rows.length rows.length) rows::O)) w rows.flatten os→∀ old,old<rows.length+news.length→
  Zbp J S w0 (OB.clp (.slice ad rows.length rows.length) rows::O) w (OB.row (.slice (some ⟨w.heap.size,0,none⟩) (rows.length+news.length) (grownCap w (rows.length+news.length) old e)) e i.size (rows++news)::O)
   (w.drew.alloc (.cells (os.toArray++nu.toArray++Builtin.zeroCells z.cells (grownCap w (rows.length+news.length) old e-(rows.length+news.length))) e)):=fun os hol hor old ho=>by
  have hkk:Keeps All w (w.drew.alloc (.cells (os.toArray++nu.toArray++Builtin.zeroCells z.cells (grownCap w (rows.length+news.length) old e-(rows.length+news.length))) e)):=(Keeps.refl _ _).drew.alloc _
  have hge:=grownCap_ge w (rows.length+news.length) old e
  have hcm:=grownCap_le_maxLen w (rows.length+news.length) old e h63
  have hlen:(os++nu).length=(rows.length+news.length)*i.size:=by rw[List.length_append,hol,hnl,Nat.add_mul]
  have hsub:∀ k,k<w.heap.size→SO S (OB.clp (.slice ad rows.length rows.length) rows::O) k→SO S (OB.row (.slice (some ⟨w.heap.size,0,none⟩) (rows.length+news.length) (grownCap w (rows.length+news.length) old e)) e i.size (rows++news)::O) k:=fun k hlt hk=>⟨hk.1,fun p hp=>by
   rcases List.mem_cons.1 hp with rfl | hp
   · intro e'
     have e'':some w.heap.size=some k:=e'
     injection e'' with e''
     omega
   · exact hk.2 p (by simp[hp])⟩
  have hinv:(OB.row (.slice (some ⟨w.heap.size,0,none⟩) (rows.length+news.length) (grownCap w (rows.length+news.length) old e)) e i.size (rows++news)).inv w0.heap.size (SO S ((OB.row (.slice (some ⟨w.heap.size,0,none⟩) (rows.length+news.length) (grownCap w (rows.length+news.length) old e)) e i.size (rows++news))::O)) (w.drew.alloc (.cells (os.toArray++nu.toArray++Builtin.zeroCells z.cells (grownCap w (rows.length+news.length) old e-(rows.length+news.length))) e)):=by
   refine⟨os++nu,⟨by rw[hlen,List.length_append],.inr ⟨w.heap.size,_,_,by rw[List.length_append],hk.size,heap_alloc_new w.drew _,by rw[List.length_append];exact hge,hcm,?_,?_⟩⟩,?_,fun r hr=>(List.mem_append.1 hr).elim (hrl r) (hn r)⟩
   · simp only[Array.size_append,List.size_toArray,size_zeroCells,hzs,hol,hnl,←Nat.add_mul]
     congr 1
     omega
   · simp only[Array.toList_append,List.append_assoc]
     rw[←List.append_assoc,List.length_append,←hlen]
     exact List.take_left
   · rw[List.flatten_append]
     exact RdL.append (hor.move hkk fun k hlt hs=>⟨trivial,hsub k hlt hs⟩) (hnr.move hkk fun k hlt hs=>⟨trivial,hsub k hlt hs⟩)
  obtain⟨g1,_⟩:=ZeA hJ htl hkk (fun k hk=>by
   have e'':some w.heap.size=some k:=hk
   injection e'' with e''
   omega) hinv
  exact⟨hk.trans hkk,g1,fun av u hr=>Rel.move hkk (fun k hlt hs=>⟨trivial,hsub k hlt hs⟩) hr⟩
 cases ad with
 | none=>
  have h0:rows=[]:=by
   cases rows with
   | nil=>rfl
   | cons r rs=>obtain⟨b,off,hb',_⟩:=hr.at (i:=0) (r:=r) rfl;cases hb'
  subst h0
  simp only[List.length_nil,Nat.zero_add,List.nil_append]at fin h63' hb ⊢
  have hrun:=run_append_nil (P:=P) w t ty e i z ht hi hz ⟨b2,off2,none⟩ news.length cap2 nu hnl (fun j u hj=>by rw[Go.WideShapes.add_plain];exact hnc j u hj) hpos oz oz
  have hf:=fin [] yz trivial 0 hpos
  simp only[Array.empty_append]at hf
  exact⟨_,_,hrun,True.intro,hf⟩
 | some ad=>
  have hos:∃ os:List Value,os.length=rows.length*i.size∧RdL (SO S (OB.clp (.slice (some ad) rows.length rows.length) rows::O)) w rows.flatten os∧∀ j u,os[j]?=some u→w.cell? (ad.add j)=some u:=by
   rcases Nat.eq_zero_or_pos rows.length with h0 | h0
   · have hr0:=List.eq_nil_of_length_eq_zero h0
     subst hr0
     exact⟨[],by simp,trivial,fun j u hj=>by simp at hj⟩
   · obtain⟨b,off,e',_⟩:=hr.at (List.getElem?_eq_getElem h0)
     injection e' with e'
     subst e'
     obtain⟨os,g1,g2,g3⟩:=hr.flat hrl h0
     exact⟨os,g1,g2,fun j u hj=>by rw[Go.WideShapes.add_plain];exact g3 j u hj⟩
  obtain⟨os,hol,hor,hoc⟩:=hos
  have hrun:=run_append_grow (P:=P) w t ty e i z ht hi hz ad rows.length rows.length os hol hoc ⟨b2,off2,none⟩ news.length cap2 nu hnl (fun j u hj=>by rw[Go.WideShapes.add_plain];exact hnc j u hj) oz oz (growslice_fits oz hb)
  exact⟨_,_,hrun,True.intro,fin os hol hor _ oz⟩
end
set_option maxHeartbeats 8000000
set_option maxRecDepth 100000
abbrev mkC (d:Db) (f:Fr) (r:List CD):List CD:=Zf d.consts::Zf d.vars::Zb9 d.frames::lS f.label::lB f.thm::Y1 f.hyps::YV f.apart::Zf f.text::Y1 f.dummies::YV f.wide::Zf f.proof::r
abbrev mkM (d:Db) (f:Fr) (nm:Value) (xs:List Itm) (vs vt:Value) (n:Nat) (kn:Bool) (y1 y2:Int):List CD:=mkC d f [.lit nm,Qv xs,.lit vs,.lit vt,lI n,lB kn,lI y1,lI y2]
abbrev mkR (d:Db) (f:Fr) (M:Nat) (v vs vt:Value) (n:Nat) (kn:Bool) (y1 y2:Int):List CD:=mkC d f [.lit (.map (some M)),.lit v,.lit vs,.lit vt,lI n,lB kn,lI y1,lI y2]
theorem Zt1 {J:WP} (hJ:Stab J) (b:Nat) (d:Db) (f:Fr) (nm:Value) (xs:List Itm) (vs vt:Value) (n:Nat) (kn:Bool) (y1 y2:Int) (sk:List (List BA)) (t:List BA) (hb:sk.length≤4000):FnM (ι:=Value) Tryz.prog J 113 [] [.at b 0,.rd (Zf t)] [OB.var b (mkM d f nm xs vs vt n kn y1 y2),OB.row vs 22 1 (sk.map Zn)] (fun _=>.tup []) (fun i'=>[OB.var b (mkC d f [.lit nm,Qv xs,.lit (i'),.lit vt,lI (n:Int),lB kn,lI y1,lI y2]),OB.row i' 22 1 ((sk++[t]).map Zn)]):=by
 refine fEM Tryz.func113 fun S w0 R hS hJ0 hH=>?_
 refine Yq (B:=So J S w0 14 (OB.var b (mkM d f nm xs vs vt n kn y1 y2)::OB.row vs 22 1 (sk.map Zn)::R) [(0,.at b 0),(1,.rd (Zf t))]) ?_ fun a w h=>h
 refine ln 1 fun hl1=>?_
 refine ZE (snK 2 tb rfl (sy (.at b 0) (fun h=>Zy rfl (h.get 0 rfl) h.x) ?_))
 refine sy (.at b 13) (fun h=>Zr YL rfl (h.get 0 rfl) h.x) ?_
 refine sy (.lit vs) (fun h=>Zw Zaj rfl (Zh h.x (mo 0 rfl)) (h.get 0 rfl) rfl h.x) ?_
 refine snK 1 tb rfl (sy (.rd (Ye ([t]))) (fun h=>YC ZF ZaL rfl (h.get 0 rfl) (Zq hS _ h.keep h.x _ nlr) (jo hJ h.x)) ?_)
 refine kw pm1 (ZS (f:=Zn) (m:=2) (s:=8) sk ([t]) (fun _=>rfl) Qy hJ hJ0 rfl rfl rfl (lb rfl) rfl rfl (fun a w h=>(h.get 0 rfl)) sfz sfz fun v1=>?_)
 refine sy (.at b 0) (fun h=>Zy rfl (h.get 7 rfl) h.x) ?_
 refine sy (.at b 13) (fun h=>Zr YL rfl (h.get 0 rfl) h.x) ?_
 refine kw pm1 (Z5 (b:=b) (off:=13) (cs:=(mkM d f nm xs vs vt n kn y1 y2)) (es:=(mkM d f nm xs v1 vt n kn y1 y2)) hJ hJ0 ZbD rfl rfl rfl (lb rfl) rfl (fun a w h=>⟨(h.get 0 rfl),(h.get 2 rfl)⟩) ?_)
 refine seK [3] [_] rfl (kw (ob1 (congrArg (fun z'=>OB.row v1 22 1 ((z').map Zn)) (show(sk++([t]))=(sk++[t])from by first | rfl | grind))) ?_)
 exact fun a w h=>Qu  v1 rfl h rfl
theorem ZhZ {J:WP} (hJ:Stab J) (b:Nat) (d:Db) (f:Fr) (nm:Value) (xs:List Itm) (n:Nat) (vs vt:Value) (kn:Bool) (y1 y2:Int) (e p:Int)  :FnM (ι:=Unit) Tryz.prog J 57 [] [.at b 0,.int e,.int p] [OB.var b (mkM d f nm xs vs vt n kn y1 y2)] (fun _=>.tup []) (fun _=>[OB.var b (mkC d f [.lit nm,Qv xs,.lit vs,.lit vt,lI (n:Int),lB true,lI e,lI p])]):=by
 refine fEM Tryz.func57 fun S w0 R hS hJ0 hH=>?_
 refine Yq (B:=So J S w0 15 (OB.var b (mkM d f nm xs vs vt n kn y1 y2)::R) [(0,.at b 0),(1,.int e),(2,.int p)]) ?_ fun a w h=>h
 refine ZE (snK 4 tb rfl (sq (.agg (vdC (⟨e,p⟩:Int×Int))) rfl rfl (lb rfl) (fun a _ h=>Xe (us:=[a.eval (.tmp 8),a.eval (.tmp 9)]) Ql rfl yz (Zi (h.get 1 rfl) (Zi (h.get 0 rfl) ZJ)) rfl h.x) ?_))
 refine sy (.at b 0) (fun h=>Zy rfl (h.get 4 rfl) h.x) ?_
 refine sy (.at b 16) (fun h=>Zr ZcF rfl (h.get 0 rfl) h.x) ?_
 refine Z5 (b:=b) (off:=16) (cs:=(mkM d f nm xs vs vt n kn y1 y2)) (es:=(mkC d f [.lit nm,Qv xs,.lit vs,.lit vt,lI (n:Int),lB true,lI y1,lI y2])) hJ hJ0 ZaC rfl rfl rfl (lb rfl) rfl (fun a w h=>⟨(h.get 0 rfl),(Rel.of_lit (.bool true))⟩) ?_
 refine sy (.at b 0) (fun h=>Zy rfl (h.get 5 rfl) h.x) ?_
 refine sy (.at b 17) (fun h=>Zr ZcE rfl (h.get 0 rfl) h.x) ?_
 refine ZB (b:=b) (off:=17) (cs:=(mkC d f [.lit nm,Qv xs,.lit vs,.lit vt,lI (n:Int),lB true,lI y1,lI y2])) (es:=(mkC d f [.lit nm,Qv xs,.lit vs,.lit vt,lI (n:Int),lB true,lI ((⟨e,p⟩:Int×Int).1),lI ((⟨e,p⟩:Int×Int).2)])) (news:=U2) hJ hJ0 YO rfl rfl rfl (lb rfl) rfl (fun a w h=>⟨(h.get 0 rfl),(h.get 4 rfl)⟩) ?_
 refine seK [] [] rfl (kw (ob0 (show OB.var b (mkC d f [.lit nm,Qv xs,.lit vs,.lit vt,lI (n:Int),lB true,lI ((⟨e,p⟩:Int×Int).1),lI ((⟨e,p⟩:Int×Int).2)])=OB.var b (mkC d f [.lit nm,Qv xs,.lit vs,.lit vt,lI (n:Int),lB true,lI e,lI p])from rfl)) ?_)
 exact fun a w h=>Qu  () rfl h rfl
section
variable {n:Rn} {N:Nat} {P:Program} {J X:WP} {S S' S'':Nat→Prop} {O:List OB} {w0:World} {env:List (Nat×AV)} {Q:Exit→Act→WP}
variable {o:Oper} {a:Act} {w:World} {x y:Operand} {t e:TypeId} {k:Nat} {v:Value} {rows:List (List CD)}
theorem ZaW {lo:Nat} {i:Int} (h1:Yx P t e k) (hop:o.op= .indexAddr t x y) (hi:∃ l,(OB.row v e k rows).inv l S w) (h:Rel S' w (.lit (ZfY v lo k)) (a.eval x)) (hy:Rel S'' w (.int i) (a.eval y)) (h0:0≤i) (hl:(lo:Int)+i< (rows.length:Int)) (hx:X w):
 Yj n P o a w (YB S X (.lit (Y8 v ((lo+i.toNat)*k))) w):=by
 obtain⟨l,hi⟩:=hi
 obtain⟨g,cap,us,cur,rfl,hc⟩:=ZaD hi oz
 have hcap:rows.length≤cap:=by
  obtain⟨us,⟨_,h3⟩,_⟩:=hi
  rcases h3 with⟨h4,_⟩ | ⟨g',cap',cur',h4,_,_,h5,_⟩
  · cases h4
  · injection h4 with e1 e2 e3;omega
 have hne:¬ cap=lo:=by omega
 have hsub:ZfY (.slice (some ⟨g,0,none⟩) rows.length cap) lo k= .slice (some ⟨g,lo*k,none⟩) (rows.length-lo) (cap-lo):=by
  simp only[ZfY,if_neg hne,Option.map_some,ZcK]
  simp
 rw[hsub]at h
 have hi2:0≤i∧i< ((rows.length-lo:Nat):Int):=⟨h0,oz⟩
 refine ZC (v:=.pointer (some ⟨g,(lo+i.toNat)*k,none⟩)) ?_ (Rel.of_lit _) hx
 rw[Nat.add_mul]
 simp[execOp,hop,h.lit,hy.lit,Instr.indexAt,asIntOf,Sem.run_bind,run_underlying h1.1,h1.2 w,hi2.1,hi2.2,ZcK]
theorem Zb2 {rows:List (List CD)} {m:Nat} (hm:rows.length=m) {S':Nat→Prop} (h1:P.underlying t=some (.slice e)) (hop:o.op= .call { callee:=.builtin .len,args:= #[x],argTypes:= #[t] }) (hi:∃ lo,(OB.row v e k rows).inv lo S w) (h:Rel S' w (.lit v) (a.eval x)) (hx:X w):
 Yj n P o a w (YB S X (.int m) w):=by
 subst hm
 obtain⟨lo,us,g1,_⟩:=hi
 refine ZC (v:=.int .i64 rows.length) ?_ (Rel.of_lit _) hx
 rcases g1.2 with⟨hv,h4⟩ | ⟨g,cap,cur,hv,_⟩
 · simp[execOp,hop,h.lit,hv,resolve,invoke,builtin,Builtin.len_,Sem.run_bind,run_underlying h1,goInt,h4]
 · simp[execOp,hop,h.lit,hv,resolve,invoke,builtin,Builtin.len_,Sem.run_bind,run_underlying h1,goInt]
theorem ZlU {α:Type} {f:α→List CD} {ops:Array Oper} {rest:List Oper} {size bytes d m s:Nat} (xs ys:List α) (hf:∀ x,(f x).length=size) (ht:Zgw P t e size bytes) (hJ:Stab J)
 (hg:o.guard=none) (hop:o.op= .call { callee:=.builtin .append,args:= #[x,y],argTypes:= #[t,t] }) (hd:o.dst=some d) (hN:d<N) (hx:x= .tmp s) (he:env[m]?=some (s,.lit v))
 (hy:∀ a w,So J S w0 N (OB.clp v (xs.map f)::O) env a w→Rel (SO S (OB.clp v (xs.map f)::O)) w (.rd (.sl (ys.map f))) (a.eval y)) (hpos:0<ys.length) (hb:(xs.length+ys.length)*bytes≤140737488355328) (h63:xs.length+ys.length≤9223372036854775807)
 (next:∀ v' a w,So J S w0 N (OB.row v' e size ((xs++ys).map f)::O) ((d,.lit v')::YM d env) a w→wpListIn n.F n.d P ops Q rest a w):
 ∀ a w,So J S w0 N (OB.clp v (xs.map f)::O) env a w→wpListIn n.F n.d P ops Q (o::rest) a w:=by
 refine ZdA (O2:=fun v'=>OB.row v' e size ((xs++ys).map f)::O) (av:=fun v'=>.lit v') hg hd hN (fun a w h=>?_) next
 obtain⟨v',w',hrun,hok,hs⟩:=ZlE (ty:=o.type) ht hJ h.keep h.x (XG hf) (hy a w h) (XG hf) (by simpa using hpos) (by simp only[List.length_map,maxLen];exact h63) (by simp only[List.length_map];exact hb)
 rw[←List.map_append]at hs
 have hv:a.eval x=v:=by rw[hx];exact(h.get m he).lit
 refine Z8 (v:=v') (w':=w') ?_ ⟨v',hs,Rel.of_lit _ hok⟩
 simp[execOp,hop,resolve,invoke,builtin,hv,hrun,Result.andThen]
end
end Go.Proofs.YtneapgbkkkjagaaGreatDoor
