/-
  WHAT IS READ, ITEM BY ITEM (plain).
  CONTRACTS of the reference: the steps that a proof means.
  CONTRACTS of the program: a label among the hypotheses'.
  CONTRACT of the program: what is checked ahead.
  CONTRACT of the program: a proof's words are read.
  CONTRACTS of the program: the machine's reading, guarded.
  CONTRACT of the program: the machine of a proof.
  CONTRACT of the program: a verdict.
  CONTRACTS of the program: verdicts of theorems, of other proofs.
  CONTRACTS of the reference: runs, verdicts.
  CONTRACTS of the reference: verdicts of proofs, of theorems.
  THE LAW's SAMPLE of verdicts, and its bounds (plain).
  CONTRACTS of the law of verdicts: its bounds, its sample, awake.
  A PROOF THAT IS CUT (plain): runs of a normal proof.
  A MACHINE THAT RUNS (plain).
  THE VERDICTS OF ALL ASSERTIONS; what a machine and the reference's run show (plain).
  THE LAWS VerifyProofs, VerifyTheorems return true.
  CONTRACTS of the program: copies of a database.
  CONTRACTS of the program: a machine that is handed out.
-/
import Derived.Test.YtneapgbkkkjagaaGreatDoorYAD
namespace Go.Proofs.YtneapgbkkkjagaaGreatDoor
def tgN (l:List Lt):Nat:=(l.filter (·.tagged)).length
theorem Zkm (l:List Lt) (x:Lt):tgN (l++[x])=if x.tagged=true then tgN l+1 else tgN l:=by
 unfold tgN
 rw[List.filter_append,List.length_append]
 by_cases h:x.tagged=true<;>simp[h]
theorem ZqR (l:List Lt) (x:Lt):tgN (x::l)=if x.tagged=true then tgN l+1 else tgN l:=by
 unfold tgN
 rw[List.filter_cons]
 by_cases h:x.tagged=true<;>simp[h]
section
variable {f:Fr} {L:List (BA×Int)} {lb:List BA}
theorem Ze6 (l r:List Lt):∀ t,Xb f L lb (l++r) t=match Xb f L lb l t with
 | none=>none
 | some xs=>match Xb f L lb r (t+tgN l)with
  | none=>none
  | some ys=>some (xs++ys):=by
 induction l with
 | nil=>intro t;simp only[List.nil_append,Xb,tgN,List.filter_nil,List.length_nil,Nat.add_zero];cases Xb f L lb r t<;>rfl
 | cons x l ih=>
  intro t
  simp only[List.cons_append,Xb]
  cases h1:Q5 f L lb t x with
  | none=>rfl
  | some y=>
   simp only
   rw[ih,ZqR]
   cases h2:Xb f L lb l (if x.tagged=true then t+1 else t)with
   | none=>rfl
   | some xs=>
    simp only
    have e:(if x.tagged=true then t+1 else t)+tgN l=t+(if x.tagged=true then tgN l+1 else tgN l):=by split<;>omega
    rw[e]
    cases h3:Xb f L lb r (t+if x.tagged=true then tgN l+1 else tgN l)<;>simp
theorem Zml {l:List Lt} {x:Lt} {ys:List Itm} {y:Itm} (h:Xb f L lb l 0=some ys) (h2:Q5 f L lb (tgN l) x=some y):Xb f L lb (l++[x]) 0=some (ys++[y]):=by
 rw[Ze6,h]
 simp[Xb,h2]
theorem Zo3 {l:List Lt} {x:Lt} {ys:List Itm} {xs:List Lt} (hp:(l++[x])<+:xs) (h:Xb f L lb l 0=some ys) (h2:Q5 f L lb (tgN l) x=none):Xb f L lb xs 0=none:=by
 obtain⟨r,rfl⟩:=hp
 rw[Ze6,Ze6,h]
 simp[Xb,h2]
theorem item_0 {tg:Nat} {x:Lt} (h:x.number=0):Q5 f L lb tg x=some ⟨0,[],0,x.tagged⟩:=by rw[Q5,if_pos h]
theorem item_1 {tg:Nat} {x:Lt} (h:¬ x.number=0) (h1:x.number≤f.hyps.length):Q5 f L lb tg x=some ⟨1,(ge f.hyps (x.number-1).toNat).text,0,x.tagged⟩:=by rw[Q5,if_neg h,if_pos h1]
theorem item_2 {tg:Nat} {x:Lt} (h:¬ x.number=0) (h1:¬ x.number≤f.hyps.length) (h2:x.number≤((f.hyps.length+lb.length:Nat):Int)):Q5 f L lb tg x=some ⟨(Yl f L (ge lb (x.number-1-f.hyps.length).toNat)).kind,(Yl f L (ge lb (x.number-1-f.hyps.length).toNat)).text,(Yl f L (ge lb (x.number-1-f.hyps.length).toNat)).number,x.tagged⟩:=by
 rw[Q5,if_neg h,if_neg h1,if_pos h2]
theorem item_4 {tg:Nat} {x:Lt} (h:¬ x.number=0) (h1:¬ x.number≤f.hyps.length) (h2:¬ x.number≤((f.hyps.length+lb.length:Nat):Int)) (h3:x.number≤((f.hyps.length+lb.length+tg:Nat):Int)):Q5 f L lb tg x=some ⟨4,[],x.number-1-f.hyps.length-lb.length,x.tagged⟩:=by
 rw[Q5,if_neg h,if_neg h1,if_neg h2,if_pos h3]
theorem ZvO {tg:Nat} {x:Lt} (h:¬ x.number=0) (h1:¬ x.number≤f.hyps.length) (h2:¬ x.number≤((f.hyps.length+lb.length:Nat):Int)) (h3:¬ x.number≤((f.hyps.length+lb.length+tg:Nat):Int)):Q5 f L lb tg x=none:=by
 rw[Q5,if_neg h,if_neg h1,if_neg h2,if_neg h3]
variable {t:List BA}
theorem ZuZ (h:Q0 t=false) (h2:2000<t.length):YY f L t= .error 10:=by simp[YY,h,h2]
theorem Zf4 (h:Q0 t=false) (h2:¬ 2000<t.length):YY f L t= .ok (t.map (Yl f L)):=by simp[YY,h,h2]
theorem ZuY (h:Q0 t=true) (h2:XI t=none):YY f L t= .error 20:=by simp[YY,h,h2]
variable {z:List BA×BA} (h0:Q0 t=true) (hz:XI t=some z)
include h0 hz
theorem Zq7 (h:(QD z.1||z.1.any fun s=>f.hyps.any fun h=>decide (h.label=s))=true):YY f L t= .error 20:=by
 obtain⟨z1,z2⟩:=z
 simp only[YY,h0,hz,Bool.not_true,Bool.false_eq_true,if_false]
 rw[if_pos h]
variable (hw:(QD z.1||z.1.any fun s=>f.hyps.any fun h=>decide (h.label=s))=false)
include hw
theorem Zq8 (h:Xb f L z.1 (Zj z.2).1 0=none):YY f L t= .error 21:=by
 obtain⟨z1,z2⟩:=z
 simp only[YY,h0,hz,Bool.not_true,Bool.false_eq_true,if_false]
 rw[if_neg (by rw[hw];decide)]
 simp only at h
 simp[h]
variable {ys:List Itm} (h:Xb f L z.1 (Zj z.2).1 0=some ys)
include h
theorem ZnU (h2:(Zj z.2).2=true):YY f L t= .error 21:=by
 obtain⟨z1,z2⟩:=z
 simp only[YY,h0,hz,Bool.not_true,Bool.false_eq_true,if_false]
 rw[if_neg (by rw[hw];decide)]
 simp only at h h2
 simp[h,h2]
theorem ZnT (h2:(Zj z.2).2=false) (h3:2000<ys.length):YY f L t= .error 10:=by
 obtain⟨z1,z2⟩:=z
 simp only[YY,h0,hz,Bool.not_true,Bool.false_eq_true,if_false]
 rw[if_neg (by rw[hw];decide)]
 simp only at h h2
 simp[h,h2,h3]
theorem Zky (h2:(Zj z.2).2=false) (h3:¬ 2000<ys.length):YY f L t= .ok ys:=by
 obtain⟨z1,z2⟩:=z
 simp only[YY,h0,hz,Bool.not_true,Bool.false_eq_true,if_false]
 rw[if_neg (by rw[hw];decide)]
 simp only at h h2
 simp[h,h2,h3]
end
theorem Ze2:∀(m:Nat) (bs:List UInt8) (n:Int) (ins:Bool),bs.length≤m→(lettersD bs n ins).1.length≤bs.length:=by
 intro m
 induction m with
 | zero=>
  intro bs n ins hm
  have:bs=[]:=List.length_eq_zero_iff.1 oz
  subst this
  simp[lettersD]
 | succ m ih=>
  intro bs n ins hm
  cases bs with
  | nil=>simp[lettersD]
  | cons b r=>
   simp only[List.length_cons]at hm
   rw[ZaG]
   split
   · split
     · simp
     · have:=ih r (5*n+((b.toNat:Int)-85)+1) true oz
       simp only[List.length_cons];omega
   split
   · split
     · simp
     · split
       · simp
       · rename_i c r'
         simp only[List.length_cons]at hm
         split
         · have:=ih r' 0 false oz
           simp only[List.length_cons];omega
         · have:=ih (c::r') 0 false (by simp only[List.length_cons];omega)
           simp only[List.length_cons]at this ⊢;omega
   split
   · have:=ih r n ins oz
     simp only[List.length_cons];omega
   · simp
theorem ZoZ (l:List BA) (k:Nat):(Zbk (l.drop k) ⟨#[]⟩).size≤ZaV l:=by
 have:=Ziq l k
 simpa [Zbk,ByteArray.size]using this
theorem Zf8 {t:List BA} {z:List BA×BA} (h:XI t=some z):z.2.size≤ZaV t∧z.1.length≤t.length:=by
 unfold XI at h
 simp only at h
 split at h
 · cases h
 split at h
 · cases h
 · injection h with h
   subst h
   refine⟨ZoZ t _,?_⟩
   simp only[List.length_drop,List.length_take]
   omega
theorem ZuW {T:Nat→Prop} {w:World} {x:Lt}:Rel T w (.agg (ltC x)) (Zxf x):=by
 simp only[Rel]
 exact⟨[.int .i64 x.number,.bool x.tagged],rfl,.lit _ True.intro,.lit _ True.intro,trivial⟩
theorem Zob {α:Type} {l xs:List α} {x:α} (h:(l++[x])<+:xs):x∈xs∧l.length<xs.length:=by
 obtain⟨r,rfl⟩:=h
 simp
section
variable {d:Db} {n:Nat} {t:List BA} {xs:List Itm} {c:Int}
theorem mch_ok (h:YY (ge d.frames n) (Zam (d.frames.take n)) t= .ok xs):Yi d n t=xs∧(XK d n t).sk=[]∧(XK d n t).tg=[]∧(XK d n t).n=0∧(XK d n t).kn=(false|| !decide (0<xs.length))∧(XK d n t).v.1=(if 0<xs.length then 0 else(Zde (ge d.frames n) [] 0).1)∧(XK d n t).v.2=(if 0<xs.length then 0 else(Zde (ge d.frames n) [] 0).2):=by
 unfold Yi XK
 rw[h]
 simp only[QE,ZbO]
 by_cases h0:0<xs.length
 · simp[h0]
 · simp[h0]
theorem ZvE (h:YY (ge d.frames n) (Zam (d.frames.take n)) t= .error c):Yi d n t=[]∧(XK d n t).sk=[]∧(XK d n t).tg=[]∧(XK d n t).n=0∧(XK d n t).kn=true∧(XK d n t).v.1=c∧(XK d n t).v.2=0:=by
 unfold Yi XK
 rw[h]
 exact⟨rfl,rfl,rfl,rfl,rfl,rfl,rfl⟩
theorem namL_nil:Zam (d.frames.take 0)=[]:=by simp[Zam]
end
end Go.Proofs.YtneapgbkkkjagaaGreatDoor
set_option maxHeartbeats 8000000
set_option maxRecDepth 100000
namespace Go.Proofs.YtneapgbkkkjagaaGreatDoor
open Go.Proofs.Tryz (prog)
open Go.RowKit
theorem Zww:Zk prog 66:=Zp Tryz.func66 rfl rfl
theorem Zwv:Zk prog 67:=Zp Tryz.func67 rfl rfl
theorem Zdm:Zcy prog 82 [.string ⟨#[]⟩,.int .i64 0,.bool false]:=⟨fun i=>(#[(0,1),(1,1),(2,1)]:Array (Nat×Nat))[i]?,fun j hj=>by rcases j with _ | _ | _ | j<;>first | rfl | (simp at hj;omega),fun parts=>by kernel_rfl⟩
theorem zero_3:Zds prog 3:=⟨.int .i64 0,fun w=>by kernel_rfl⟩
theorem Zqr:Zgw prog 119 3 1 8:=ZqD (.int .i64 0) (by kernel_rfl) (by kernel_rfl) rfl dz (fun w=>by kernel_rfl)
theorem ZwY {J:WP} (hJ:Stab J) (f:Fr) (t:List BA) (hn:t.length≤100000) (hs:ZaV t≤1000000000) (hh:f.hyps.length≤2000):Fn prog J 44 [.agg (frC f),.rd (Zf t)] (.tup [.rd (ZhA ((Z6 f t).1)),.int ((Z6 f t).2)]):=by
 refine fE Tryz.func44 fun S w0 hS hJ0=>?_
 refine tw ZR (ln 1 fun hl1=>?_)
 refine ZG tb hJ [1,1000] [.ptr (frC f),_,_] [0] U2 rfl ⟨iBo hS hJ,trivial⟩ ?_
 refine Ze (ZG tb hJ [0,1,1002] [_,.bool (Q0 t),_] [1] U3 rfl ⟨iFo hS hJ (Zd5 hJ t) ZpU,trivial⟩ ?_)
 refine cj 2 (fun hb1=>?_) fun hb1=>?_
 ·
  try simp at hb1
  refine ZG tb hJ [1002,1004,1005] [_,.tup [.rd (ZhA (if 2000<t.length then []else Zl8 t)),.int (if 2000<t.length then 10 else 0)],_,_,_,_] [1] U3 rfl ⟨iFo hS hJ (Ztp hJ t) Zww,trivial⟩ ?_
  refine ln 0 fun hl2=>?_
  exact ZA (fun a w h=>Y0 (m:=1) (k:=2) rfl (ZW h) rfl rfl (congrArg (fun z=>AV.rd (ZhA z)) (show(if 2000<t.length then []else Zl8 t)=((Z6 f t).1)from by first | (rw[eU];done) | (rw[eU];exact hb2) | (rw[eU];exact hb6) | (rw[ZaE (by simpa using hb1)]))) (eI (by first | (rw[eU];done) | (rw[eU];exact hb2) | (rw[eU];exact hb6) | (rw[ZaE (by simpa using hb1)]))))
 ·
  try simp at hb1
  have h0:Q0 t=true:=by simpa using hb1
  refine Zb (nx (ZG tb hJ [0,1,1003,1004,1006,1007,1008] [_,.tup [.rd (Zf ((QX t).1)),.rd (ZhC ((QX t).2.1)),.int ((QX t).2.2)],_,_,_,_,_,_,_] [1] U7 rfl ⟨iFo hS hJ (Zqi hJ t (by exact hn) (by exact hs)) Zwv,trivial⟩ ?_))
  refine ln 2 fun hl3=>?_
  refine ln 3 fun hl4=>?_
  refine Ze (qso tb hJ [0,1,4,5,6,1001] U2 U6 ?_)
  refine cj 5 (fun hb2=>?_) fun hb2=>?_
  ·
   try simp at hb2
   have eU:=ri_20 (f:=f) h0 hb2
   refine qso tb hJ [1001,1002] U3 U2 ?_
   exact tw (fun h=>Yb h (m:=0) (s:=4) rfl) (ZA (fun a w h=>Y0 (m:=0) (k:=1) rfl (ZW h) rfl rfl (congrArg (fun z=>AV.rd (ZhA z)) (show([]:List Ri)=((Z6 f t).1)from by first | (rw[eU];done) | (rw[eU];exact hb2) | (rw[eU];exact hb6) | (rw[ZaE (by simpa using hb1)]))) (eI (by first | (rw[eU];done) | (rw[eU];exact hb2) | (rw[eU];exact hb6) | (rw[ZaE (by simpa using hb1)])))))
  ·
   try simp at hb2
   obtain⟨e1,e2,e3⟩:=ZoN h0 hb2
   have e4:=Ze7 h0 e1
   have e10:(Xm t).length=Zsd t-1∧Zsd t<t.length:=by have h8:=e4.2.1;change Zsd t<t.length at h8;rw[List.length_drop,List.length_take];exact⟨oz,h8⟩
   refine Zb (nx (Ze (ZG tb hJ (r5 [1002]) [_,.int (Yn (isV (⟨#[41]⟩:BA)) t),_] [1] U6 rfl ⟨iFo hS hJ (Zhq hJ t (⟨#[41]⟩:BA)) Zhl,trivial⟩ ?_)))
   refine qso tb hJ (r6 [1001]) U2 U7 ?_
   refine jnoK (ι:=Unit) (fun _=>True) (fun _=>[]) (fun _=>[(1,.rd (Zf t)),(2,.ptr (frC f)),(7,.rd (ZhC ((QX t).2.1))),(8,.int ((QX t).2.2)),(6,.rd (Zf (Xm t)))]) ?_ ?_
   ·
    refine cj 6 (fun hb3=>?_) fun hb3=>?_
    ·
     try simp at hb3
     refine tw (sa 5 rfl (congrArg AV.int (show Yn (isV (⟨#[41]⟩:BA)) t=(((Yn (isV ⟨#[41]⟩) t).toNat:Nat):Int)from by omega))) (Yo tb hJ [0,1,3,4,1002,1003] [_,_,.rd (Zf ((t.take ((Yn (isV ⟨#[41]⟩) t).toNat)).drop 1)),_] [2] U6 rfl ⟨fun _ _ _ hx hl _=>Yy (ys:=(t.take ((Yn (isV ⟨#[41]⟩) t).toNat)).drop 1) (lo:=1) (hi:=(Yn (isV ⟨#[41]⟩) t).toNat) rfl Zd (fun _=>rfl) rfl (hl.D 0 35 rfl rfl) (Rel.of_lit (.int .i64 1)) (hl.D 1 36 rfl rfl) sfz sfz hx,trivial⟩ ?_)
     exact ZkW () [0,1,2,3,5] trivial
    ·
     try simp at hb3
     exact tw (sa 2 rfl (show(.rd (Zf ((QX t).1)):AV)= .rd (Zf (Xm t))from by rw[(e2 hb3).1])) (Zb (ZkW () [0,1,3,4,2] trivial))
   ·
    rintro _-
    refine ln 4 fun hl5=>?_
    refine Ze (qso tb hJ (r5 [1000]) [_] U6 ?_)
    refine Zc (lpo (ι:=Nat) (fun i=>(i≤f.hyps.length)∧(∀ j,j<i→¬ (ge f.hyps j).label∈Xm t)) (fun _=>[]) (fun i=>[(10,.int (i:Nat))]) (fun i=>f.hyps.length-i) (r6 []) U5 0 ⟨nzl,fun j hj=>by omega⟩ ?_)
    rintro i ⟨f1_1,f1_2⟩
    refine Ze (ZG tb hJ (r6 [1002,1004]) (V3 [.int (f.hyps.length:Nat),_]) [3] U8 rfl ⟨Z3 Zz,trivial⟩ ?_)
    refine ln 6 fun hl6=>?_
    refine cj 7 (fun hb4=>?_) fun hb4=>?_
    ·
     try simp at hb4
     refine Zb (nx (Ze (Zc (ZG tb hJ (r6 [1008]) (V4 [.ptr (hyC (ge f.hyps i)),_,_,.int (Yn (isV ((ge f.hyps i).label)) (Xm t)),_]) [4,7] U7 rfl ⟨iIx Zo,iFo hS hJ (Zhq hJ (Xm t) ((ge f.hyps i).label)) Zhl,trivial⟩ ?_))))
     refine cj 6 (fun hb5=>?_) fun hb5=>?_
     ·
      try simp at hb5
      have eU:=ri_own (f:=f) h0 hb2 (List.any_eq_true.2 ⟨_,Zu oz,by simpa using idx_mem.1 hb5⟩)
      refine qso tb hJ [1000,1001] U2 U2 ?_
      exact tw (fun h=>Yb h (m:=0) (s:=4) rfl) (ZA (fun a w h=>Y0 (m:=0) (k:=1) rfl (ZW h) rfl rfl (congrArg (fun z=>AV.rd (ZhA z)) (show([]:List Ri)=((Z6 f t).1)from by first | (rw[eU];done) | (rw[eU];exact hb2) | (rw[eU];exact hb6) | (rw[ZaE (by simpa using hb1)]))) (eI (by first | (rw[eU];done) | (rw[eU];exact hb2) | (rw[eU];exact hb6) | (rw[ZaE (by simpa using hb1)])))))
     ·
      try simp at hb5
      refine Zb (nx (Yo tb hJ (r5 [1002]) [_,.int (i+1:Nat),_] [1] U6 rfl ⟨Z7,trivial⟩ ?_))
      exact YE (i+1) (r6 []) ⟨oz,ZK f1_2 (fun e=>by have h9:=idx_mem.2 e;first | omega | (simp at h9;omega))⟩
    ·
     try simp at hb4
     have e5:(f.hyps.any fun h=>decide (h.label∈Xm t))=false:=List.any_eq_false.2 fun x hx=>by obtain⟨j,hj,rfl⟩:=Xp hx;simpa using f1_2 j oz
     refine Zs (nx (Ze (qso tb hJ (r5 [1001]) U2 U6 ?_)))
     refine cj 5 (fun hb6=>?_) fun hb6=>?_
     ·
      try simp at hb6
      have eU:=ri_21 h0 hb2 e5 hb6
      refine qso tb hJ [1001,1002] U3 U2 ?_
      exact tw (fun h=>Yb h (m:=0) (s:=4) rfl) (ZA (fun a w h=>Y0 (m:=0) (k:=1) rfl (ZW h) rfl rfl (congrArg (fun z=>AV.rd (ZhA z)) (show([]:List Ri)=((Z6 f t).1)from by first | (rw[eU];done) | (rw[eU];exact hb2) | (rw[eU];exact hb6) | (rw[ZaE (by simpa using hb1)]))) (eI (by first | (rw[eU];done) | (rw[eU];exact hb2) | (rw[eU];exact hb6) | (rw[ZaE (by simpa using hb1)])))))
     ·
      try simp at hb6
      have e6:=e3 hb6
      refine Zb (nx (Ze (qso tb hJ (r5 [1001]) U2 U6 ?_)))
      refine jnoK (ι:=Unit) (fun _=>True) (fun _=>[]) (fun _=>[(2,.ptr (frC f)),(8,.int ((QX t).2.2)),(6,.rd (Zf (Xm t))),(7,.rd (ZhC ((Zj (Yd t)).1)))]) ?_ ?_
      ·
       refine cj 5 (fun hb7=>?_) fun hb7=>?_
       ·
        try simp at hb7
        have e7:(Xm t).length+2=Zsd t+1:=by rw[List.length_drop,List.length_take];have h9:=e4.1;have h8:=e4.2.1;change 1≤Zsd t at h9;change Zsd t<t.length at h8;omega
        refine ZE (snK 2 tb (env':=[(61,_),(60,_),(1,_),(2,_),(7,_),(8,_),(6,_),(58,_)]) rfl (sy (.int ((Xm t).length:Nat)) (fun h=>Zai Zm rfl (h.get 0 rfl) h.x) ?_))
        refine sy (.int ((Xm t).length+2:Nat)) (fun h=>ZeR (i:=(((Xm t).length:Nat):Int)) (j:=(2:Int)) rfl (h.get 0 rfl) (Rel.of_lit (.int .i64 2)) sfz sfz h.x) ?_
        refine sy (.rd (Zf (t.drop ((Xm t).length+2)))) (fun h=>Yy (ys:=t.drop ((Xm t).length+2)) (lo:=(Xm t).length+2) (hi:=t.length) (by rw[List.take_length]) Zd (fun _=>rfl) rfl (h.get 3 rfl) (h.get 0 rfl) rfl sfz sfz h.x) ?_
        refine sy (.str (Zbk (t.drop ((Xm t).length+2)) ⟨#[]⟩)) (fun h=>ZaY (Zqd hJ (t.drop ((Xm t).length+2)) (by exact Nat.le_trans (ZcU _ _) hs)) ZpS rfl (Zq hS _ h.keep h.x) (h.x.1) (Za (h.get 0 rfl) Zg) (jo hJ h.x)) ?_
        refine Xv (O:=[]) (R:=[]) (ZiM hJ (Zbk (t.drop ((Xm t).length+2)) ⟨#[]⟩) (by exact Nat.le_trans (Zfx _ _) hs)) ZpT rfl rfl rfl (lb rfl) hS hJ0 Zv (fun a w h=>(Za (h.get 0 rfl) Zg)) fun z1=>?_
        refine snK 4 tb (env':=[(7,_),(68,_),(67,_),(59,_),(66,_),(65,_),(64,_),(63,_),(62,_),(61,_),(60,_),(1,_),(2,_),(8,_),(6,_),(58,_)]) rfl (seK [0,2,6,12,13,14] U6 rfl ?_)
        exact kw (sa 0 rfl (show(.rd (ZhC z1.1.1):AV)= .rd (ZhC ((Zj (Yd t)).1))from by have h9:=z1.2.2;simp only[e7]at h9;exact congrArg (fun z=>AV.rd (ZhC z)) (h9 e6))) (ZkW () [3,4,5,0] trivial)
       ·
        try simp at hb7
        exact tw (sa 2 rfl (show(.rd (ZhC ((QX t).2.1)):AV)= .rd (ZhC ((Zj (Yd t)).1))from by rw[(e2 hb7).2])) (Zb (ZkW () [1,3,4,2] trivial))
      ·
       rintro _-
       have e8:(Zj (Yd t)).1.length≤1000000000:=by have h9:=Ze2 _ (Yd t).data.toList 0 false nlr;have h8:=Zfx t (Zsd t+1);exact Nat.le_trans h9 (Nat.le_trans h8 hs)
       refine ln 3 fun hl7=>?_
       refine tsq (XF Xr hJ rfl rfl rfl (lb rfl) fun v2=>?_)
       refine snK 1 tb (env':=[(11,_),(69,_),(2,_),(8,_),(6,_),(7,_)]) rfl (seK [0,2,3,4,5] U5 rfl ?_)
       refine nx (tsq (XF Qk hJ rfl rfl rfl (lb rfl) fun v3=>?_))
       refine snK 1 tb (env':=[(12,_),(70,_),(11,_),(2,_),(8,_),(6,_),(7,_)]) rfl (seK [0,2,3,4,5,6] U6 rfl ?_)
       refine nx (Ze (qso tb hJ (r6 [1000]) [_] U7 ?_))
       refine Zc (lpo (ι:=Nat×Value×(List Ri)×Value×(List Int)) (fun(k,_,out,_,tg)=>(k≤(Zj (Yd t)).1.length)∧(Zek f (Xm t) ((Zj (Yd t)).1.take k) ([],[])=some (out,tg))∧(out.length=k)∧(tg.length≤k)) (fun(_,v,out,u,tg)=>[OB.row u 3 1 (tg.map intC),OB.row v 82 3 (out.map riC)]) (fun(k,v,_,u,_)=>[(13,.int (k:Nat)),(11,.lit v),(12,.lit u)]) (fun(k,_,_,_,_)=>(Zj (Yd t)).1.length-k) [2,3,4,5,6,1,0] U4 (0,v2,([]:List Ri),v3,([]:List Int)) ⟨nzl,rfl,rfl,Nat.le_refl _⟩ ?_)
       rintro⟨k,v,out,u,tg⟩ ⟨f2_1,f2_2,f2_3,f2_4⟩
       refine Ze (ZG tb hJ (r7 [1003]) [_,_,.int (((Zj (Yd t)).1).length:Nat),_] [2] U8 rfl ⟨Z3 Zbz,trivial⟩ ?_)
       refine cj 7 (fun hb8=>?_) fun hb8=>?_
       ·
        try simp at hb8
        have hn0:0≤(ge (Zj (Yd t)).1 k).number:=QP _ _ 0 false nlr (Int.le_refl _) _ (Zu hb8)
        refine Zb (nx (Ze (Zc (ZG tb hJ (r7 [1005]) [_,_,.ptr (ltC (ge ((Zj (Yd t)).1) k)),_,_,_] [2] U8 rfl ⟨iIx XE,trivial⟩ ?_))))
        refine jno (ι:=Ri×Value×(List Ri)) (fun(r,_,outr)=>(Zbt f (Xm t) tg (ge (Zj (Yd t)).1 k)=some r)∧(outr=out++[r])) (fun(_,vr,outr)=>[OB.row u 3 1 (tg.map intC),OB.row vr 82 3 (outr.map riC)]) (fun(_,vr,_)=>[(2,.ptr (frC f)),(8,.int ((QX t).2.2)),(6,.rd (Zf (Xm t))),(7,.rd (ZhC ((Zj (Yd t)).1))),(13,.int (k:Nat)),(12,.lit u),(11,.lit vr)]) ?_ ?_
        ·
         refine Zc (qso tb hJ (r8 [1002]) U3 U9 ?_)
         refine cj 8 (fun hb9=>?_) fun hb9=>?_
         ·
          try simp at hb9
          have e9:Zbt f (Xm t) tg (ge (Zj (Yd t)).1 k)=some ⟨⟨#[]⟩, -1,true⟩:=by rw[Zbt,if_pos hb9]
          refine ZE (snK 1 tb (env':=[(85,_),(2,_),(8,_),(6,_),(7,_),(13,_),(11,_),(12,_),(14,_),(82,_)]) rfl (sq (.agg (riC (⟨⟨#[]⟩,(-1:Int),true⟩:Ri))) rfl rfl (lb rfl) (fun a _ h=>Yh (ps:=[(1,a.eval (.const (.int .i64 (-1)))),(2,a.eval (.const (.bool true)))]) (us:=[.string ⟨#[]⟩,a.eval (.const (.int .i64 (-1))),a.eval (.const (.bool true))]) Zdm rfl yz (Zcx (lb rfl) rfl (Zcx (lb rfl) rfl ZcJ)) rfl (Ys (.lit _ nzl) (Zi (Rel.of_lit (.int .i64 (-1))) (Zi (Rel.of_lit (.bool true)) ZJ))) h.x) ?_))
          refine sy (.rd (ZhA ([(⟨⟨#[]⟩,(-1:Int),true⟩:Ri)]))) (fun h=>Xw Xr Zew dz rfl rfl (h.get 0 rfl) (Zq hS _ h.keep h.x _ nlr) (jo hJ h.x)) ?_
          refine kw pm1 (ZS (f:=riC) (m:=2) (s:=85) out ([(⟨⟨#[]⟩,(-1:Int),true⟩:Ri)]) (fun _=>rfl) ZbT hJ hJ0 rfl rfl rfl (lb rfl) rfl rfl (fun a w h=>(h.get 0 rfl)) sfz sfz fun v4=>?_)
          refine snK 1 tb (env':=[(11,_),(88,_),(87,_),(86,_),(85,_),(2,_),(8,_),(6,_),(7,_),(13,_),(12,_),(14,_),(82,_)]) rfl (seK [0,2,5,6,7,8,9,10] U8 rfl ?_)
          exact kw pm1 (ZkW ((⟨⟨#[]⟩,(-1:Int),true⟩:Ri),v4,out++([(⟨⟨#[]⟩,(-1:Int),true⟩:Ri)])) [2,3,4,5,6,7,0] ⟨e9,rfl⟩)
         ·
          try simp at hb9
          refine ZG tb hJ (r8 [1005]) (V3 [.int (f.hyps.length:Nat),_,_]) [3] U9 rfl ⟨Z3 Zz,trivial⟩ ?_
          refine cj 8 (fun hb10=>?_) fun hb10=>?_
          ·
           try simp at hb10
           have e9:Zbt f (Xm t) tg (ge (Zj (Yd t)).1 k)=some ⟨(ge f.hyps ((ge (Zj (Yd t)).1 k).number-1).toNat).label, -1,false⟩:=by rw[Zbt,if_neg oz,if_pos oz]
           refine ZE (snK 4 tb (env':=[(98,_),(97,_),(96,_),(95,_),(2,_),(8,_),(6,_),(7,_),(13,_),(11,_),(12,_),(14,_),(89,_)]) rfl (sy (.int ((ge ((Zj (Yd t)).1) k).number-(1:Int))) (fun h=>Zcn (i:=(ge ((Zj (Yd t)).1) k).number) (j:=(1:Int)) rfl (h.get 0 rfl) (Rel.of_lit (.int .i64 1)) sfz sfz h.x) ?_))
           refine sy (.ptr (hyC (ge f.hyps ((ge ((Zj (Yd t)).1) k).number-(1:Int)).toNat))) (fun h=>ZQ (i:=(ge ((Zj (Yd t)).1) k).number-(1:Int)) Zo rfl (h.get 2 rfl) (h.get 0 rfl) sfz (ZdB (xs:=f.hyps) (i:=(ge ((Zj (Yd t)).1) k).number-(1:Int)) sfz sfz) rfl h.x) ?_
           refine snK 2 tb (env':=[(102,_),(101,_),(100,_),(99,_),(98,_),(97,_),(96,_),(95,_),(2,_),(8,_),(6,_),(7,_),(13,_),(11,_),(12,_),(14,_),(89,_)]) rfl (sq (.agg (riC (⟨(ge f.hyps ((ge ((Zj (Yd t)).1) k).number-(1:Int)).toNat).label,(-1:Int),false⟩:Ri))) rfl rfl (lb rfl) (fun a _ h=>Yh (ps:=[(0,a.eval (.tmp 102)),(1,a.eval (.const (.int .i64 (-1))))]) (us:=[a.eval (.tmp 102),a.eval (.const (.int .i64 (-1))),.bool false]) Zdm rfl yz (Zcx (lb rfl) (Rel.oneC (h.get 0 rfl)) (Zcx (lb rfl) rfl ZcJ)) rfl (Zi (h.get 0 rfl) (Zi (Rel.of_lit (.int .i64 (-1))) (Ys (.lit _ True.intro) ZJ))) h.x) ?_)
           refine sy (.rd (ZhA ([(⟨(ge f.hyps ((ge ((Zj (Yd t)).1) k).number-(1:Int)).toNat).label,(-1:Int),false⟩:Ri)]))) (fun h=>Xw Xr Zew dz rfl rfl (h.get 0 rfl) (Zq hS _ h.keep h.x _ nlr) (jo hJ h.x)) ?_
           refine kw pm1 (ZS (f:=riC) (m:=9) (s:=95) out ([(⟨(ge f.hyps ((ge ((Zj (Yd t)).1) k).number-(1:Int)).toNat).label,(-1:Int),false⟩:Ri)]) (fun _=>rfl) ZbT hJ hJ0 rfl rfl rfl (lb rfl) rfl rfl (fun a w h=>(h.get 0 rfl)) sfz sfz fun v5=>?_)
           refine snK 1 tb (env':=[(11,_),(105,_),(104,_),(103,_),(102,_),(101,_),(100,_),(99,_),(98,_),(97,_),(96,_),(95,_),(2,_),(8,_),(6,_),(7,_),(13,_),(12,_),(14,_),(89,_)]) rfl (seK [0,2,12,13,14,15,16,17] U8 rfl ?_)
           exact kw pm1 (ZkW ((⟨(ge f.hyps ((ge ((Zj (Yd t)).1) k).number-(1:Int)).toNat).label,(-1:Int),false⟩:Ri),v5,out++([(⟨(ge f.hyps ((ge ((Zj (Yd t)).1) k).number-(1:Int)).toNat).label,(-1:Int),false⟩:Ri)])) [2,3,4,5,6,7,0] ⟨e9,rfl⟩)
          ·
           try simp at hb10
           refine ZG tb hJ (r8 [1008]) (V3 [.int (f.hyps.length:Nat),_,.int ((Xm t).length:Nat),.int (f.hyps.length+(Xm t).length:Nat),_,_]) [3,5,6] U9 rfl ⟨Z3 Zz,Z3 Zm,Z7,trivial⟩ ?_
           refine cj 8 (fun hb11=>?_) fun hb11=>?_
           ·
            try simp at hb11
            have e9:Zbt f (Xm t) tg (ge (Zj (Yd t)).1 k)=some ⟨ge (Xm t) ((ge (Zj (Yd t)).1 k).number-(f.hyps.length:Int)-1).toNat, -1,false⟩:=by rw[Zbt,if_neg oz,if_neg oz,if_pos oz]
            refine ZE (snK 5 tb (env':=[(119,_),(118,_),(117,_),(116,_),(115,_),(2,_),(8,_),(6,_),(7,_),(13,_),(11,_),(12,_),(14,_),(106,_)]) rfl (sy (.int (f.hyps.length:Nat)) (fun h=>Zai Zz rfl (h.get 0 rfl) h.x) ?_))
            refine sy (.int ((ge ((Zj (Yd t)).1) k).number-(f.hyps.length:Int))) (fun h=>Zcn (i:=(ge ((Zj (Yd t)).1) k).number) (j:=(f.hyps.length:Int)) rfl (h.get 3 rfl) (h.get 0 rfl) sfz sfz h.x) ?_
            refine sy (.int ((ge ((Zj (Yd t)).1) k).number-(f.hyps.length:Int)-(1:Int))) (fun h=>Zcn (i:=(ge ((Zj (Yd t)).1) k).number-(f.hyps.length:Int)) (j:=(1:Int)) rfl (h.get 0 rfl) (Rel.of_lit (.int .i64 1)) sfz sfz h.x) ?_
            refine sy (.ptr [lS (ge (Xm t) ((ge ((Zj (Yd t)).1) k).number-(f.hyps.length:Int)-(1:Int)).toNat)]) (fun h=>ZQ (i:=(ge ((Zj (Yd t)).1) k).number-(f.hyps.length:Int)-(1:Int)) Zd rfl (h.get 6 rfl) (h.get 0 rfl) sfz (ZdB (xs:=Xm t) (i:=(ge ((Zj (Yd t)).1) k).number-(f.hyps.length:Int)-(1:Int)) sfz sfz) rfl h.x) ?_
            refine snK 1 tb (env':=[(124,_),(123,_),(122,_),(121,_),(120,_),(119,_),(118,_),(117,_),(116,_),(115,_),(2,_),(8,_),(6,_),(7,_),(13,_),(11,_),(12,_),(14,_),(106,_)]) rfl (sq (.agg (riC (⟨(ge (Xm t) ((ge ((Zj (Yd t)).1) k).number-(f.hyps.length:Int)-(1:Int)).toNat),(-1:Int),false⟩:Ri))) rfl rfl (lb rfl) (fun a _ h=>Yh (ps:=[(0,a.eval (.tmp 124)),(1,a.eval (.const (.int .i64 (-1))))]) (us:=[a.eval (.tmp 124),a.eval (.const (.int .i64 (-1))),.bool false]) Zdm rfl yz (Zcx (lb rfl) (Rel.oneC (h.get 0 rfl)) (Zcx (lb rfl) rfl ZcJ)) rfl (Zi (h.get 0 rfl) (Zi (Rel.of_lit (.int .i64 (-1))) (Ys (.lit _ True.intro) ZJ))) h.x) ?_)
            refine sy (.rd (ZhA ([(⟨(ge (Xm t) ((ge ((Zj (Yd t)).1) k).number-(f.hyps.length:Int)-(1:Int)).toNat),(-1:Int),false⟩:Ri)]))) (fun h=>Xw Xr Zew dz rfl rfl (h.get 0 rfl) (Zq hS _ h.keep h.x _ nlr) (jo hJ h.x)) ?_
            refine kw pm1 (ZS (f:=riC) (m:=11) (s:=115) out ([(⟨(ge (Xm t) ((ge ((Zj (Yd t)).1) k).number-(f.hyps.length:Int)-(1:Int)).toNat),(-1:Int),false⟩:Ri)]) (fun _=>rfl) ZbT hJ hJ0 rfl rfl rfl (lb rfl) rfl rfl (fun a w h=>(h.get 0 rfl)) sfz sfz fun v6=>?_)
            refine snK 1 tb (env':=[(11,_),(127,_),(126,_),(125,_),(124,_),(123,_),(122,_),(121,_),(120,_),(119,_),(118,_),(117,_),(116,_),(115,_),(2,_),(8,_),(6,_),(7,_),(13,_),(12,_),(14,_),(106,_)]) rfl (seK [0,2,14,15,16,17,18,19] U8 rfl ?_)
            exact kw pm1 (ZkW ((⟨(ge (Xm t) ((ge ((Zj (Yd t)).1) k).number-(f.hyps.length:Int)-(1:Int)).toNat),(-1:Int),false⟩:Ri),v6,out++([(⟨(ge (Xm t) ((ge ((Zj (Yd t)).1) k).number-(f.hyps.length:Int)-(1:Int)).toNat),(-1:Int),false⟩:Ri)])) [2,3,4,5,6,7,0] ⟨e9,rfl⟩)
           ·
            try simp at hb11
            refine ZmW tb hJ (r8 [1011]) (V3 [.int (f.hyps.length:Nat),_,.int ((Xm t).length:Nat),.int (f.hyps.length+(Xm t).length:Nat),_,.int (tg.length:Nat),.int (f.hyps.length+(Xm t).length+tg.length:Nat),_,_]) [3,5,6,8,9] U9 rfl ⟨Z3 Zz,Z3 Zm,Z7,fun _ _ _ hx hl _=>Zai ZfX rfl (Qa hS hx (mo 0 rfl) (hl.D 7 136 rfl rfl)) hx,Z7,trivial⟩ ?_
            refine cj 8 (fun hb12=>?_) fun hb12=>?_
            ·
             try simp at hb12
             have e9:Zbt f (Xm t) tg (ge (Zj (Yd t)).1 k)=some ⟨⟨#[]⟩,ge tg ((ge (Zj (Yd t)).1 k).number-(f.hyps.length:Int)-((Xm t).length:Int)-1).toNat,false⟩:=by rw[Zbt,if_neg oz,if_neg oz,if_neg oz,if_pos oz]
             refine ZE (snK 5 tb (env':=[(144,_),(143,_),(142,_),(141,_),(140,_),(2,_),(8,_),(6,_),(7,_),(13,_),(11,_),(12,_),(14,_),(128,_)]) rfl (sy (.int (f.hyps.length:Nat)) (fun h=>Zai Zz rfl (h.get 0 rfl) h.x) ?_))
             refine sy (.int ((ge ((Zj (Yd t)).1) k).number-(f.hyps.length:Int))) (fun h=>Zcn (i:=(ge ((Zj (Yd t)).1) k).number) (j:=(f.hyps.length:Int)) rfl (h.get 3 rfl) (h.get 0 rfl) sfz sfz h.x) ?_
             refine snK 1 tb (env':=[(147,_),(146,_),(145,_),(144,_),(143,_),(142,_),(141,_),(140,_),(2,_),(8,_),(6,_),(7,_),(13,_),(11,_),(12,_),(14,_),(128,_)]) rfl (sy (.int ((Xm t).length:Nat)) (fun h=>Zai Zm rfl (h.get 0 rfl) h.x) ?_)
             refine sy (.int ((ge ((Zj (Yd t)).1) k).number-(f.hyps.length:Int)-(((Xm t).length:Nat):Int))) (fun h=>Zcn (i:=(ge ((Zj (Yd t)).1) k).number-(f.hyps.length:Int)) (j:=(((Xm t).length:Nat):Int)) rfl (h.get 2 rfl) (h.get 0 rfl) sfz sfz h.x) ?_
             refine sy (.int ((ge ((Zj (Yd t)).1) k).number-(f.hyps.length:Int)-(((Xm t).length:Nat):Int)-(1:Int))) (fun h=>Zcn (i:=(ge ((Zj (Yd t)).1) k).number-(f.hyps.length:Int)-(((Xm t).length:Nat):Int)) (j:=(1:Int)) rfl (h.get 0 rfl) (Rel.of_lit (.int .i64 1)) sfz sfz h.x) ?_
             refine sy (.lit (Y8 u ((((ge ((Zj (Yd t)).1) k).number-(f.hyps.length:Int)-(((Xm t).length:Nat):Int)-(1:Int)).toNat)*1))) (fun h=>YP (i:=(ge ((Zj (Yd t)).1) k).number-(f.hyps.length:Int)-(((Xm t).length:Nat):Int)-(1:Int)) Qk rfl (Zh h.x (mo 0 rfl)) (h.get 9 rfl) (h.get 0 rfl) sfz (by rw[List.length_map];exact sfz) h.x) ?_
             refine sy (.int (ge tg (((ge ((Zj (Yd t)).1) k).number-(f.hyps.length:Int)-(((Xm t).length:Nat):Int)-(1:Int)).toNat))) (fun h=>XV (i:=((ge ((Zj (Yd t)).1) k).number-(f.hyps.length:Int)-(((Xm t).length:Nat):Int)-(1:Int)).toNat) Zay rfl (Zh h.x (mo 0 rfl)) (h.get 0 rfl) (Qq (xs:=tg) (k:=((ge ((Zj (Yd t)).1) k).number-(f.hyps.length:Int)-(((Xm t).length:Nat):Int)-(1:Int)).toNat) sfz) h.x) ?_
             refine sq (.agg (riC (⟨⟨#[]⟩,(ge tg (((ge ((Zj (Yd t)).1) k).number-(f.hyps.length:Int)-(((Xm t).length:Nat):Int)-(1:Int)).toNat)),false⟩:Ri))) rfl rfl (lb rfl) (fun a _ h=>Yh (ps:=[(1,a.eval (.tmp 152))]) (us:=[.string ⟨#[]⟩,a.eval (.tmp 152),.bool false]) Zdm rfl yz (Zcx (lb rfl) (Rel.oneC (h.get 0 rfl)) ZcJ) rfl (Ys (.lit _ nzl) (Zi (h.get 0 rfl) (Ys (.lit _ True.intro) ZJ))) h.x) ?_
             refine sy (.rd (ZhA ([(⟨⟨#[]⟩,(ge tg (((ge ((Zj (Yd t)).1) k).number-(f.hyps.length:Int)-(((Xm t).length:Nat):Int)-(1:Int)).toNat)),false⟩:Ri)]))) (fun h=>Xw Xr Zew dz rfl rfl (h.get 0 rfl) (Zq hS _ h.keep h.x _ nlr) (jo hJ h.x)) ?_
             refine kw pm1 (ZS (f:=riC) (m:=14) (s:=140) out ([(⟨⟨#[]⟩,(ge tg (((ge ((Zj (Yd t)).1) k).number-(f.hyps.length:Int)-(((Xm t).length:Nat):Int)-(1:Int)).toNat)),false⟩:Ri)]) (fun _=>rfl) ZbT hJ hJ0 rfl rfl rfl (lb rfl) rfl rfl (fun a w h=>(h.get 0 rfl)) sfz sfz fun v7=>?_)
             refine snK 1 tb (env':=[(11,_),(155,_),(154,_),(153,_),(152,_),(151,_),(150,_),(149,_),(148,_),(147,_),(146,_),(145,_),(144,_),(143,_),(142,_),(141,_),(140,_),(2,_),(8,_),(6,_),(7,_),(13,_),(12,_),(14,_),(128,_)]) rfl (seK [0,2,17,18,19,20,21,22] U8 rfl ?_)
             exact kw pm1 (ZkW ((⟨⟨#[]⟩,(ge tg (((ge ((Zj (Yd t)).1) k).number-(f.hyps.length:Int)-(((Xm t).length:Nat):Int)-(1:Int)).toNat)),false⟩:Ri),v7,out++([(⟨⟨#[]⟩,(ge tg (((ge ((Zj (Yd t)).1) k).number-(f.hyps.length:Int)-(((Xm t).length:Nat):Int)-(1:Int)).toNat)),false⟩:Ri)])) [2,3,4,5,6,7,0] ⟨e9,rfl⟩)
            ·
             try simp at hb12
             have e9:Zbt f (Xm t) tg (ge (Zj (Yd t)).1 k)=none:=by rw[Zbt,if_neg oz,if_neg oz,if_neg oz,if_neg oz]
             have eU:=ri_bad h0 hb2 e5 hb6 (Zrn hb8 f2_2 e9)
             refine qso tb hJ [1000,1001] U2 U2 ?_
             exact tw (fun h=>Yb h (m:=0) (s:=4) rfl) (ZA (fun a w h=>Y0 (m:=0) (k:=1) rfl (ZW h) rfl rfl (congrArg (fun z=>AV.rd (ZhA z)) (show([]:List Ri)=((Z6 f t).1)from by first | (rw[eU];done) | (rw[eU];exact hb2) | (rw[eU];exact hb6) | (rw[ZaE (by simpa using hb1)]))) (eI (by first | (rw[eU];done) | (rw[eU];exact hb2) | (rw[eU];exact hb6) | (rw[ZaE (by simpa using hb1)])))))
        ·
         rintro⟨r,vr,outr⟩ ⟨g4_1,g4_2⟩
         have e9:=g4_1
         refine ZG tb hJ (r7 [1004]) [_,_,.ptr (ltC (ge ((Zj (Yd t)).1) k)),_,_] [2] U8 rfl ⟨iIx XE,trivial⟩ ?_
         refine cj 7 (fun hb13=>?_) fun hb13=>?_
         ·
          try simp at hb13
          refine ZE (snK 2 tb (env':=[(162,_),(161,_),(2,_),(8,_),(6,_),(7,_),(13,_),(12,_),(11,_),(160,_)]) rfl (sy (.rd (ZvQ ([(k:Int)]))) (fun h=>YC Qk zero_3 rfl (h.get 0 rfl) (Zq hS _ h.keep h.x _ nlr) (jo hJ h.x)) ?_))
          refine ZS (f:=intC) (m:=2) (s:=161) tg ([(k:Int)]) (fun _=>rfl) Zqr hJ hJ0 rfl rfl rfl (lb rfl) rfl rfl (fun a w h=>(h.get 0 rfl)) sfz sfz fun v8=>?_
          refine snK 1 tb (env':=[(12,_),(164,_),(163,_),(162,_),(161,_),(2,_),(8,_),(6,_),(7,_),(13,_),(11,_),(160,_)]) rfl (seK [0,2,5,6,7,8,9,10] U8 rfl ?_)
          refine nx (ln 1 fun hl8=>?_)
          refine Yo tb hJ [0,2,3,4,5,7,1002] [_,.int (k+1:Nat),_] [1] U7 rfl ⟨Z7,trivial⟩ ?_
          exact YE (k+1,vr,outr,v8,tg++([(k:Int)])) [1,2,3,4,6,5,0] ⟨oz,by have h9:=ZhT (q:=(out,tg)) hb8 f2_2 e9;rw[g4_2];first | (rw[if_pos hb13]at h9;rw[h9];simp only[f2_3];done) | (rw[if_neg (by simp[hb13])]at h9;exact h9),by rw[g4_2];simp;omega,by first | omega | (simp;omega)⟩
         ·
          try simp at hb13
          refine Zb (nx (Yo tb hJ [0,1,2,3,5,6,1002] [_,.int (k+1:Nat),_] [1] U7 rfl ⟨Z7,trivial⟩ ?_))
          exact YE (k+1,vr,outr,u,tg) [0,1,2,3,6,5,4] ⟨oz,by have h9:=ZhT (q:=(out,tg)) hb8 f2_2 e9;rw[g4_2];first | (rw[if_pos hb13]at h9;rw[h9];simp only[f2_3];done) | (rw[if_neg (by simp[hb13])]at h9;exact h9),by rw[g4_2];simp;omega,by first | omega | (simp;omega)⟩
       ·
        try simp at hb8
        have e9:Zek f (Xm t) (Zj (Yd t)).1 ([],[])=some (out,tg):=by rw[ZD oz]at f2_2;exact f2_2
        refine Zs (nx (Ze (qso tb hJ [1,5,1001] U2 U3 ?_)))
        refine cj 2 (fun hb14=>?_) fun hb14=>?_
        ·
         try simp at hb14
         have eU:=ri_10 h0 hb2 e5 hb6 e9 hb14
         refine qso tb hJ [1001,1002] U3 U2 ?_
         exact tw (fun h=>Yb h (m:=0) (s:=4) rfl) (ZA (fun a w h=>Y0 (m:=0) (k:=1) rfl (ZW h) rfl rfl (congrArg (fun z=>AV.rd (ZhA z)) (show([]:List Ri)=((Z6 f t).1)from by first | (rw[eU];done) | (rw[eU];exact hb2) | (rw[eU];exact hb6) | (rw[ZaE (by simpa using hb1)]))) (eI (by first | (rw[eU];done) | (rw[eU];exact hb2) | (rw[eU];exact hb6) | (rw[ZaE (by simpa using hb1)])))))
        ·
         try simp at hb14
         have eU:=ri_ok h0 hb2 e5 hb6 e9 hb14
         refine Zb (nx (qso tb hJ [1001,1002] U3 U2 ?_))
         refine tw pm1 (tw (fun h=>ZO hS h (m:=0) (s:=4) rfl) ?_)
         exact ZA (fun a w h=>Y0 (m:=0) (k:=1) rfl (ZW h) rfl rfl (congrArg (fun z=>AV.rd (ZhA z)) (show out=((Z6 f t).1)from by first | (rw[eU];done) | (rw[eU];exact hb2) | (rw[eU];exact hb6) | (rw[ZaE (by simpa using hb1)]))) (eI (by first | (rw[eU];done) | (rw[eU];exact hb2) | (rw[eU];exact hb6) | (rw[ZaE (by simpa using hb1)]))))
end Go.Proofs.YtneapgbkkkjagaaGreatDoor
set_option maxHeartbeats 8000000
set_option maxRecDepth 100000
namespace Go.Proofs.YtneapgbkkkjagaaGreatDoor
open Go.RowKit
theorem Zrs {J:WP} (hJ:Stab J) (h:Hy) (s:BA)  :Fn Tryz.prog J 108 [.agg (hyC h),.ptr [lS s]] (.bool (decide (h.label=s))):=by
 refine fE Tryz.func108 fun S w0 hS hJ0=>?_
 clear hJ0
 refine hqs tb hJ [1,1000] [.ptr (hyC h),_] [0] U2 rfl ⟨iBs hS hJ,trivial⟩ ?_
 refine qs tb hJ [1004] U5 [_] ?_
 exact tRn 0 (hE:=rfl)
theorem Zvb {J:WP} (hJ:Stab J) (b:Nat) (d:Db) (f:Fr) (M:Nat) (vi vs vt:Value) (n:Nat) (kn:Bool) (y1 y2:Int) (s:BA)  :FnR Tryz.prog J 107 [OB.var b (mkR d f M vi vs vt n kn y1 y2)] [.str s,.ptr [.lit (.pointer (some ⟨b,0,none⟩))]] (.bool (f.hyps.any fun h=>decide (h.label=s))):=by
 refine fER Tryz.func107 fun S w0 hS hJ0 hH=>?_
 refine tw ZR (ZG tb hJ [1,1000] [.ptr [lS s],_] [0] U2 rfl ⟨fun _ _ hk hx hl _=>Zct rfl (hl.env 0 0 _ rfl rfl) (Zq hS _ hk hx _ nlr) (jo hJ hx),trivial⟩ ?_)
 refine ZG tb hJ [1004,1007] [_,.at b 0,.at b 3,.at b 5,.rd (Y1 f.hyps),.fn 108 [.ptr [lS s]],.bool (f.hyps.any (fun h'=>decide (h'.label=s))),_] [1,2,3,4,5,6] U2 rfl ⟨fun _ _ _ hx hl _=>Zy rfl (hl.D 0 4 rfl rfl) hx,fun _ _ _ hx hl _=>Zr Zaf rfl (hl.D 1 5 rfl rfl) hx,fun _ _ _ hx hl _=>Zr Qh rfl (hl.D 2 6 rfl rfl) hx,fun _ _ hk hx hl _=>Zw Zcu rfl (Yc hH hk hx (mo 0 rfl)) (hl.D 3 7 rfl rfl) rfl hx,fun _ _ _ hx hl _=>XB (caps:=[(.tmp 2)]) rfl (Za (hl.env 1 2 _ rfl rfl) Zg) hx,fun _ _ hk hx hl _=>Y5 (Qt hJ f.hyps 108 [.ptr [lS s]] [] (fun h'=>decide (h'.label=s)) (fun q'=>(Zrs hJ q' s).r) (Zti)) Zhm rfl (Zq hS _ hk hx) (hx.1) Zv (Za (hl.D 4 8 rfl rfl) (Za (hl.D 5 9 rfl rfl) Zg)) (jo hJ hx),trivial⟩ ?_
 refine ln 0 fun hl1=>?_
 exact tRo 1 (hE:=eB (by first | rfl | grind[Zu]))
theorem ZeU {J:WP} (hJ:Stab J) (d:Db) (z:Int) (hw:∀ f∈d.frames,f.wide.length*32≤140737488351232) (hG:Q2 J):Fn Tryz.prog J 33 [.agg (dbC d),.int z] (.int (YX d z)):=by
 refine fE Tryz.func33 fun S w0 hS hJ0=>?_
 refine tw ZR (ZG tb hJ [1,1000] [.ptr (dbC d),_] [0] U2 rfl ⟨iBo hS hJ,trivial⟩ ?_)
 refine Ze (ZG tb hJ [0,1,1002] [_,.int (Zaz d),_] [1] U3 rfl ⟨iFo hS hJ (Zvs hJ d (by exact hw) (by exact hG)) ZwI,trivial⟩ ?_)
 refine qso tb hJ [0,1,2,1001] U2 U4 ?_
 refine cj 3 (fun hb1=>?_) fun hb1=>?_
 ·
  try simp at hb1
  refine qso tb hJ [1001] U2 [_] ?_
  exact tRo 0 (hE:=eI (by simp[YX,hb1]))
 ·
  try simp at hb1
  refine Zb (nx (Ze (ZG tb hJ [1008] (V6 [.int (d.frames.length:Nat),_,_]) [6] [_] rfl ⟨Z3 XS,trivial⟩ ?_)))
  refine cj 0 (fun hb2=>?_) fun hb2=>?_
  ·
   try simp at hb2
   refine qso tb hJ [1000] [_] [_] ?_
   exact tRo 0 (hE:=eI (by simp only[YX];rw[if_neg (by simpa using hb1),if_pos (by simpa using hb2)]))
  ·
   try simp at hb2
   refine Zb (nx (qso tb hJ [1000] [_] [_] ?_))
   exact tRo 0 (hE:=eI (by simp only[YX];rw[if_neg (by simpa using hb1),if_neg (by simpa using hb2)]))
abbrev nmE (f:Fr) (L:List (BA×Int)) (l:List BA) (x:Lt):Itm:=Yl f L (ge l (x.number-(1:Int)-(f.hyps.length:Int)).toNat)
theorem p_read {J:WP} (hJ:Stab J) (b:Nat) (d:Db) (f:Fr) (M:Nat) (L:List (BA×Int)) (vi vs vt:Value) (n:Nat) (kn:Bool) (y1 y2:Int) (t:List BA) (ht:∀ h∈f.hyps++f.dummies,h.text.length≤2000) (hh:f.hyps.length≤2000) (hn:t.length≤100000) (hs:ZaV t≤1000000000):FnP (ι:= {q':Value×List Itm // YY f L t= .ok q'.2}) (κ:= {q:Int×Value×List Itm // YY f L t= .error q.1}) Tryz.prog J 56 [] [.at b 0,.rd (Zf t)] [OB.var b (mkR d f M vi vs vt n kn y1 y2),OB.row vi 106 4 (([]:List Itm).map itC),OB.mI M L] (fun _=>.tup []) (fun i'=>[OB.var b (mkC d f [.lit (.map (some M)),.lit (i'.1.1),.lit vs,.lit vt,lI (n:Int),lB kn,lI y1,lI y2]),OB.row i'.1.1 106 4 ((i'.1.2).map itC),OB.mI M L]) (fun k'=>flV k'.1.1) (fun k'=>[OB.var b (mkC d f [.lit (.map (some M)),.lit (k'.1.2.1),.lit vs,.lit vt,lI (n:Int),lB kn,lI y1,lI y2]),OB.row k'.1.2.1 106 4 ((k'.1.2.2).map itC),OB.mI M L]):=by
 refine Zmw (N:=142) Tryz.func56 rfl rfl (lb rfl) fun S w0 R hS hJ0 hH=>?_
 refine atw (B:=So J S w0 142 (OB.var b (mkR d f M vi vs vt n kn y1 y2)::OB.row vi 106 4 (([]:List Itm).map itC)::OB.mI M L::R) [(0,.at b 0),(1,.rd (Zf t))]) (fun h=>h) ?_
 refine lnA 1 fun hl1=>?_
 refine Zcv (m:=5) ?_
 refine Yo tb hJ [1,1000] [.ptr [.lit (.pointer (some ⟨b,0,none⟩))]] [0] U2 rfl ⟨fun _ _ hk hx hl _=>Zct rfl (hl.env 0 0 _ rfl rfl) (Zq hS _ hk hx _ nlr) (jo hJ hx),trivial⟩ ?_
 refine nxA ?_
 refine Zcv (m:=5) ?_
 refine ZG tb hJ [0,1,1002] [_,.bool (Q0 t),_] [1] U3 rfl ⟨iFo hS hJ (Zh2 hJ t) Ztl,trivial⟩ ?_
 refine cj 2 (fun hb1=>?_) fun hb1=>?_
 ·
  try simp at hb1
  refine Ze (ZG tb hJ [0,1,1002] [_,.int (t.length:Nat),_] [1] U3 rfl ⟨Z3 Zm,trivial⟩ ?_)
  refine cj 2 (fun hb2=>?_) fun hb2=>?_
  ·
   try simp at hb2
   refine ZE (Qo (O:=[]) (R:=(OB.var b (mkR d f M vi vs vt n kn y1 y2)::OB.row vi 106 4 (([]:List Itm).map itC)::OB.mI M L::R)) (QT hJ (c:=(10:Int)) ) Xc rfl rfl rfl (lb rfl) hS hJ0 Zv (fun a w h=>(Za (Rel.of_lit (.int .i64 10)) Zg)) (fun _=>?_) (fun i=>i.elim))
   refine Zov ?_
   exact fun a w h=>pnP (⟨(10,vi,([]:List Itm)),ZuZ hb1 oz⟩: {q:Int×Value×List Itm // YY f L t= .error q.1}) rfl a w h
  ·
   try simp at hb2
   refine Zb (nx (Ze (ZG tb hJ [1,1000,1001,1002] [_,.int (t.length:Nat),_] [1] U4 rfl ⟨Z3 Zm,trivial⟩ ?_)))
   refine Zc (lpo (ι:=Nat×(List Itm)×Value) (fun(k,ys,_)=>(k≤t.length)∧(ys=(t.take k).map (Yl f L))) (fun(_,ys,wv)=>(OB.var b (mkR d f M wv vs vt n kn y1 y2)::OB.row wv 106 4 (ys.map itC)::OB.mI M L::R)) (fun(k,_,_)=>[(23,.int (k:Nat))]) (fun(k,_,_)=>t.length-k) [0,1,2,3] U3 (0,([]:List Itm),vi) ⟨nzl,rfl⟩ ?_)
   rintro⟨k,ys,wv⟩ ⟨f1_1,f1_2⟩
   refine qso tb hJ [0,1,2,3,1000] [_] U5 ?_
   refine cjS 4 (fun hb3=>?_) fun hb3=>?_
   ·
    try simp at hb3
    have e7:ys.length≤2000:=by rw[f1_2];simp;omega
    refine Zb (nx (Ze (Zc (ZG tb hJ [0,1,2,3,1002] [.ptr [lS (ge t k)],_,_] [0] U5 rfl ⟨iIx Zd,trivial⟩ ?_))))
    refine tw pm1 (fun a w h=>X5 (OB.var b (mkR d f M wv vs vt n kn y1 y2)::OB.mI M L::R) (γ:=Value) (fun ix'=>([.at b 0,.at b 0,.at b 0,.at b 12,.lit wv,.at b 0,.str (ge t k),.agg (itC (Yl f L (ge t k))),.rd (Qv ([(Yl f L (ge t k))])),.any,.at b 0,.at b 12,.any]:List AV).getD ix' .any) (fun _=>true) [(2,fun _=>.ptr [.lit (.pointer (some ⟨b,0,none⟩))]),(21,fun _=>.rd (Zf t)),(22,fun _=>.int (t.length:Nat)),(23,fun _=>.int (k:Nat))] (fun j' g=>match j' with | 0=>(OB.row wv 106 4 (ys.map itC)::OB.var b (mkR d f M wv vs vt n kn y1 y2)::OB.mI M L::R) | 1=>(OB.row g 106 4 ((ys++([(Yl f L (ge t k))])).map itC)::OB.var b (mkR d f M wv vs vt n kn y1 y2)::OB.mI M L::R) | _=>(OB.row g 106 4 ((ys++([(Yl f L (ge t k))])).map itC)::OB.var b (mkR d f M g vs vt n kn y1 y2)::OB.mI M L::R)) (fun k' g=>match k' with | 0=>g | _=>undef) [9,12] 1 (.slice none 0 0) (fun _=>rfl) h hJ Yr rfl rfl rfl rfl rfl rfl hsb ⟨?_,?_,?_,?_,?_,?_,?_,?_,?_,?_,?_,?_,?_,trivial⟩ ⟨?e7_1_0,?e7_1_1,trivial⟩ ⟨.old 0 2 _,.old 1 21 _,.old 2 22 _,.old 3 23 _,trivial⟩ ?n7_1)
    exact oX rfl fun hx hl=>ZH Xo rfl (hl.env 0 2 _ rfl rfl) hx
    exact oX rfl fun hx hl=>ZH Xo rfl (hl.env 0 2 _ rfl rfl) hx
    exact oX rfl fun hx hl=>Zy rfl (hl.D 1 28 rfl rfl) hx
    exact oX rfl fun hx hl=>Zr XN rfl (hl.D 2 29 rfl rfl) hx
    exact fun _ O' hO'=>⟨rfl,fun _ _ _ hx hl _=>Zw Zif rfl (Zh hx (hO' _ (mo 0 rfl))) (hl.D 3 30 rfl rfl) rfl hx⟩
    exact oX rfl fun hx hl=>ZH Xo rfl (hl.env 0 2 _ rfl rfl) hx
    exact oX rfl fun hx hl=>Z2 rfl (hl.env 4 5 _ rfl rfl) hx
    exact fun _ O' hO'=>⟨rfl,fun _ _ hk hx hl _=>Y5 (Zol hJ b d f M L wv vs vt n kn y1 y2 (ge t k) sfz) ZlA rfl (Zq hS _ hk hx) (hx.1) (ZP (Zh hx (hO' _ (mo 0 rfl))) (ZP (Zh hx (hO' _ (mo 1 rfl))) Zv)) (Za (hl.D 5 32 rfl rfl) (Za (hl.D 6 33 rfl rfl) Zg)) (jo hJ hx)⟩
    exact oY rfl fun hk hx hl=>ZeQ Zbl Zkb rfl rfl (hl.D 7 34 rfl rfl) (Zq hS _ hk hx _ nlr) (jo hJ hx)
    exact Zl rfl
    exact oX rfl fun hx hl=>Zy rfl (hl.D 0 27 rfl rfl) hx
    exact oX rfl fun hx hl=>Zr XN rfl (hl.D 10 37 rfl rfl) hx
    exact Zl rfl
    case e7_1_0=>exact⟨_,rfl,rfl,rfl,rfl,fun _ _ w hk hx hl _=>Zx (Qw (f:=itC) ys ([(Yl f L (ge t k))]) (fun _=>rfl) Zgs hJ hJ0 rfl hk hx (hl.D 4 31 rfl rfl).lit (hl.D 8 35 rfl rfl) sfz sfz) fun v w' hp=>⟨v,rfl,fun k' hk'=>absurd hk' (Nat.not_lt_zero _),fun _=>rfl,hp⟩⟩
    case e7_1_1=>exact⟨_,rfl,rfl,rfl,rfl,fun g _ w hk hx hl hs=>Zx (Zhd (off:=12) (cs:=(mkR d f M wv vs vt n kn y1 y2)) (es:=(mkR d f M g vs vt n kn y1 y2)) (c:=.lit g) hJ hJ0 ZeI rfl hk hx (hl.D 11 38 rfl rfl) (by rw[(hs 0 9 _ 36 oz rfl rfl rfl)];exact Rel.of_lit _ (Zah (hx.2.1 _ (mo 0 rfl)))) (lb rfl) rfl) fun v w' hp=>⟨g,rfl,fun _ _=>rfl,fun e=>(by cases e),hp⟩⟩
    clear a w h
    intro v3
    dsimp only[List.map]
    refine nx (Yo tb hJ [0,1,2,1001] [.int (k+1:Nat),_] [0] U4 rfl ⟨Z7,trivial⟩ ?_)
    refine kw pm2 (kw pm1 ?_)
    exact kw pm2 (YE (k+1,ys++[Yl f L (ge t k)],v3) [0,1,2,3] ⟨oz,by rw[Q7 hb3,f1_2]⟩)
   ·
    try simp at hb3
    refine Zs (nx (ZA (outAk ?_)))
    exact fun a w h=>lvP (Qu  ⟨(wv,ys),by first | (rw[f1_2,ZD oz];exact Zf4 hb1 oz) | exact Zky (ys:=ys) hb1 z4.2 hb4 r1_ h9 oz⟩ rfl h rfl)
 ·
  try simp at hb1
  refine Zb (nxA ?_)
  refine Zcv (m:=5) ?_
  refine ZE (snK 1 tb rfl (Qo (O:=[]) (R:=(OB.var b (mkR d f M vi vs vt n kn y1 y2)::OB.row vi 106 4 (([]:List Itm).map itC)::OB.mI M L::R)) (Zvd hJ t sfz sfz sfz) Ztk rfl rfl rfl (lb rfl) hS hJ0 Zv (fun a w h=>(Za (h.get 0 rfl) Zg)) (fun k5=>?_) fun z4=>?_))
  ·
   refine Zov ?_
   exact fun a w h=>pnP (⟨(k5.1,vi,([]:List Itm)),by show YY f L t=Except.error k5.1;rw[k5.2.2];exact ZuY hb1 k5.2.1⟩: {q:Int×Value×List Itm // YY f L t= .error q.1}) rfl a w h
  refine snK 3 tb rfl (ZT Znf hJ rfl rfl rfl (lb rfl) fun b6=>?_)
  refine Z5 (b:=b6) (off:=0) (es:=[_]) hJ hJ0 ZbE rfl rfl rfl (lb rfl) rfl (fun a w h=>⟨(h.get 0 rfl),(h.get 2 rfl)⟩) ?_
  refine snK 1 tb rfl (kw (fun h=>YJ hS h (m:=1) (s:=6) rfl) ?_)
  refine seK [0,1,3,8] U4 rfl (nxA ?_)
  refine lnA 2 fun hl2=>?_
  refine Zcv (m:=5) ?_
  refine Yo tb hJ [0,1,3,1001] [.fn 107 [.ptr [.lit (.pointer (some ⟨b,0,none⟩))]],_] [0] U4 rfl ⟨fun _ _ _ hx hl _=>XB (caps:=[(.tmp 2)]) rfl (Za (hl.env 3 2 _ rfl rfl) Zg) hx,trivial⟩ ?_
  refine nxA ?_
  refine Zcv (m:=5) ?_
  refine ZG tb hJ [0,1,2,1006] [_,.bool (QD z4.1.1),_,_,_,.bool (z4.1.1.any (fun s'=>f.hyps.any fun h'=>decide (h'.label=s'))),_] [1,5] U4 rfl ⟨iFo hS hJ (Zu7 hJ z4.1.1) Zth,fun _ _ hk hx hl hc=>Y5 (YD hJ z4.1.1 107 [.ptr [.lit (.pointer (some ⟨b,0,none⟩))]] [OB.var b (mkR d f M vi vs vt n kn y1 y2)] (fun s'=>f.hyps.any fun h'=>decide (h'.label=s')) (fun q'=>Zvb hJ b d f M vi vs vt n kn y1 y2 q') (Ztj)) Zdf rfl (Zq hS _ hk hx) (hx.1) (ZP (Zh hx (mo 0 rfl)) Zv) (Za (hl.D 3 49 rfl hc) (Za (hl.D 4 50 rfl hc) Zg)) (jo hJ hx),trivial⟩ ?_
  refine cj 3 (fun hb4=>?_) fun hb4=>?_
  ·
   refine ZE (Qo (O:=[]) (R:=(OB.var b (mkR d f M vi vs vt n kn y1 y2)::OB.row vi 106 4 (([]:List Itm).map itC)::OB.mI M L::R)) (QT hJ (c:=(20:Int)) ) Xc rfl rfl rfl (lb rfl) hS hJ0 Zv (fun a w h=>(Za (Rel.of_lit (.int .i64 20)) Zg)) (fun _=>?_) (fun i=>i.elim))
   refine Zov ?_
   exact fun a w h=>pnP (⟨(20,vi,([]:List Itm)),Zq7 hb1 z4.2 hb4⟩: {q:Int×Value×List Itm // YY f L t= .error q.1}) rfl a w h
  ·
   refine Zb (nxA ?_)
   refine Zcv (m:=5) ?_
   refine ZE (snK 1 tb rfl (sy (.at b 0) (fun h=>Zy rfl (h.get 0 rfl) h.x) ?_))
   refine sy (.at b 3) (fun h=>Zr Zaf rfl (h.get 0 rfl) h.x) ?_
   refine sy (.at b 5) (fun h=>Zr Qh rfl (h.get 0 rfl) h.x) ?_
   refine sy (.rd (Y1 f.hyps)) (fun h=>Zw Zcu rfl (Zh h.x (mo 0 rfl)) (h.get 0 rfl) rfl h.x) ?_
   refine sy (.int (f.hyps.length:Nat)) (fun h=>Zai Zz rfl (h.get 0 rfl) h.x) ?_
   refine ZT Zki hJ rfl rfl rfl (lb rfl) fun b9=>?_
   refine ZT Zki hJ rfl rfl rfl (lb rfl) fun b10=>?_
   refine kw pm1 (Z5 (b:=b9) (off:=0) (es:=[_]) hJ hJ0 ZbY rfl rfl rfl (lb rfl) rfl (fun a w h=>⟨(h.get 1 rfl),(h.get 2 rfl)⟩) ?_)
   refine kw pm1 (Z5 (b:=b10) (off:=0) (es:=[_]) hJ hJ0 ZbY rfl rfl rfl (lb rfl) rfl (fun a w h=>⟨(h.get 0 rfl),(Rel.of_lit (.int .i64 0))⟩) ?_)
   refine kw pm1 (kw (fun h=>YJ hS h (m:=1) (s:=9) rfl) ?_)
   refine seK [0,1,3,8,9,10] U6 rfl (nxA ?_)
   refine lnA 2 fun hl3=>?_
   refine a_seq ?_
   refine Zcv (m:=5) ?_
   refine Yo tb hJ [0,1,3,5,1001] [_,.fn 144 [.ptr [lS z4.1.2]]] [1] U5 rfl ⟨iFo hS hJ (Zom hJ z4.1.2) Ztg,trivial⟩ ?_
   refine nxA ?_
   refine Zqu ?_
   refine atw (fun h=>ZcX (p:=(Xb f L z4.1.1 ([]:List Lt) 0=some ([]:List Itm))∧(0=tgN ([]:List Lt))∧(([]:List Itm).length=([]:List Lt).length)) (⟨rfl,rfl,rfl⟩) h) ?_
   refine ZnW (m:=5) (κ:=Value×(List Itm)×Nat) (μ:= {q:Int×Value×List Itm // YY f L t= .error q.1}) (σ:=Empty) (Zmd hJ z4.1.2 (by first | omega | (have:=Zf8 z4.2;omega))) ZsT hJ hS hJ0 Zv (fun pre (wv,ys,tg)=>[OB.fct ((Xb f L z4.1.1 pre 0=some ys)∧(tg=tgN pre)∧(ys.length=pre.length)),OB.var b10 [lI (tg:Int)],OB.var b (mkR d f M wv vs vt n kn y1 y2),OB.row wv 106 4 (ys.map itC),OB.mI M L]) (fun q': {q:Int×Value×List Itm // YY f L t= .error q.1}=>flV q'.1.1) (fun q'=>[OB.var b (mkC d f [.lit (.map (some M)),.lit (q'.1.2.1),.lit vs,.lit vt,lI (n:Int),lB kn,lI y1,lI y2]),OB.row q'.1.2.1 106 4 ((q'.1.2.2).map itC),OB.mI M L]) (fun s'=>[]) (vi,([]:List Itm),0) (fun x9=>.agg (ltC x9)) (fun x9=>[(11,.ptr (ltC x9)),(9,.ptr [lI (f.hyps.length:Int)]),(10,.at b10 0),(6,.ptr [Zf z4.1.1]),(2,.ptr [.lit (.pointer (some ⟨b,0,none⟩))])]) (lb rfl) Tryz.func56 (fun _ _ _ _=>ZuW) ?_ ?_ ?_ ?_ ?_ ?_ ?_
   · exact fun a w h=>ZnR (h.get 4 rfl)
   ·
    rintro m9 l9 R' pre x9 ⟨wv,ys,tg⟩ K9 hK9
    refine ZE (XZ (cs:=ltC x9) Znb rfl rfl rfl (lb rfl) rfl rfl rfl dz (m:=0) rfl rfl (fun a w h=>Zq hS _ h.keep h.x _ nlr) (fun a w h w' hk'=>YA hJ _ _ hk' h.x) ?_)
    exact seK [0,2,3,4,5] U5 rfl (hK9)
   ·
    rintro m9 l9 R' pre x9 ⟨wv,ys,tg⟩ hpre
    refine ZtL fun hF=>?_
    obtain⟨r1_,r2_,r3_⟩:=hF
    have e0:=QP _ _ 0 false nlr (Int.le_refl _) x9 (Zob hpre).1
    have e1:=Zf8 z4.2
    have e2:=Ze2 _ z4.1.2.data.toList 0 false nlr
    have e3:pre.length<z4.1.2.size:=Nat.lt_of_lt_of_le (Zob hpre).2 e2
    have e4:tg≤pre.length:=by rw[r2_];exact List.length_filter_le _ _
    refine Zc (tsq (ZT Zbe hJ rfl rfl rfl (lb rfl) fun b11=>?_))
    refine seK (r6 []) U6 rfl (nx (Ze (qso tb hJ (r6 [1002]) U3 U7 ?_)))
    refine jnoK (ι:=Itm) (fun q4=>(Q5 f L z4.1.1 tg x9=some ⟨q4.kind,q4.text,q4.number,x9.tagged⟩)) (fun q4=>(OB.var b11 [lI q4.kind,Zf q4.text,lI q4.number,lB q4.tagged]::OB.var b10 [lI (tg:Int)]::OB.var b (mkR d f M wv vs vt n kn y1 y2)::OB.row wv 106 4 (ys.map itC)::OB.mI M L::R')) (fun _=>[(12,.at b11 0),(11,.ptr (ltC x9)),(9,.ptr [lI (f.hyps.length:Int)]),(10,.at b10 0),(6,.ptr [Zf z4.1.1]),(2,.ptr [.lit (.pointer (some ⟨b,0,none⟩))])]) ?_ ?_
    ·
     refine Zc (qso tb hJ (r7 [1002]) U3 U8 ?_)
     refine cj 7 (fun hb5=>?_) fun hb5=>?_
     ·
      try simp at hb5
      have e9:=item_0 (f:=f) (L:=L) (lb:=z4.1.1) (tg:=tg) hb5
      refine ZE (sq (.agg (itC (⟨(0:Int),[],0,false⟩:Itm))) rfl rfl (lb rfl) (fun a _ h=>Yh (ps:=[(0,a.eval (.const (.int .i64 0)))]) (us:=[a.eval (.const (.int .i64 0)),.slice none 0 0,.int .i64 0,.bool false]) QL rfl yz (Zcx (lb rfl) rfl ZcJ) rfl (Zi (Rel.of_lit (.int .i64 0)) (Ys (.nil _ _ nzl) (Ys (.lit _ True.intro) (Ys (.lit _ True.intro) ZJ)))) h.x) ?_)
      refine ZB (b:=b11) (off:=0) (es:=U4) (news:=U4) hJ hJ0 XU rfl rfl rfl (lb rfl) rfl (fun a w h=>⟨(h.get 1 rfl),(h.get 0 rfl)⟩) ?_
      exact seK [1,2,3,4,5,6] U6 rfl (ZkW (⟨(0:Int),([]:List BA),(0:Int),false⟩:Itm) (r6 []) (show Q5 f L z4.1.1 tg x9=some ⟨(⟨(0:Int),([]:List BA),(0:Int),false⟩:Itm).kind,(⟨(0:Int),([]:List BA),(0:Int),false⟩:Itm).text,(⟨(0:Int),([]:List BA),(0:Int),false⟩:Itm).number,x9.tagged⟩from e9))
     ·
      try simp at hb5
      refine qso tb hJ (r7 [1003]) U4 U8 ?_
      refine cj 7 (fun hb6=>?_) fun hb6=>?_
      ·
       try simp at hb6
       have e9:=item_1 (L:=L) (lb:=z4.1.1) (tg:=tg) hb5 oz
       refine ZE (snK 1 tb rfl (sy (.at b 0) (fun h=>Zy rfl (h.get 0 rfl) h.x) ?_))
       refine sy (.at b 3) (fun h=>Zr Zaf rfl (h.get 0 rfl) h.x) ?_
       refine sy (.at b 5) (fun h=>Zr Qh rfl (h.get 0 rfl) h.x) ?_
       refine sy (.rd (Y1 f.hyps)) (fun h=>Zw Zcu rfl (Zh h.x (mo 2 rfl)) (h.get 0 rfl) rfl h.x) ?_
       refine snK 1 tb rfl (sy (.int (x9.number-(1:Int))) (fun h=>Zcn (i:=x9.number) (j:=(1:Int)) rfl (h.get 0 rfl) (Rel.of_lit (.int .i64 1)) sfz sfz h.x) ?_)
       refine sy (.ptr (hyC (ge f.hyps (x9.number-(1:Int)).toNat))) (fun h=>ZQ (i:=x9.number-(1:Int)) Zo rfl (h.get 2 rfl) (h.get 0 rfl) sfz (ZdB (xs:=f.hyps) (i:=x9.number-(1:Int)) sfz sfz) rfl h.x) ?_
       refine snK 2 tb rfl (sq (.agg (itC (⟨(1:Int),(ge f.hyps (x9.number-(1:Int)).toNat).text,0,false⟩:Itm))) rfl rfl (lb rfl) (fun a _ h=>Yh (ps:=[(0,a.eval (.const (.int .i64 1))),(1,a.eval (.tmp 83))]) (us:=[a.eval (.const (.int .i64 1)),a.eval (.tmp 83),.int .i64 0,.bool false]) QL rfl yz (Zcx (lb rfl) rfl (Zcx (lb rfl) (Rel.oneC (h.get 0 rfl)) ZcJ)) rfl (Zi (Rel.of_lit (.int .i64 1)) (Zi (h.get 0 rfl) (Ys (.lit _ True.intro) (Ys (.lit _ True.intro) ZJ)))) h.x) ?_)
       refine ZB (b:=b11) (off:=0) (es:=U4) (news:=U4) hJ hJ0 XU rfl rfl rfl (lb rfl) rfl (fun a w h=>⟨(h.get 11 rfl),(h.get 0 rfl)⟩) ?_
       exact seK [1,11,12,13,14,15,16] U7 rfl (ZkW (⟨(1:Int),(ge f.hyps (x9.number-(1:Int)).toNat).text,(0:Int),false⟩:Itm) [1,2,3,4,5,6] (show Q5 f L z4.1.1 tg x9=some ⟨(⟨(1:Int),(ge f.hyps (x9.number-(1:Int)).toNat).text,(0:Int),false⟩:Itm).kind,(⟨(1:Int),(ge f.hyps (x9.number-(1:Int)).toNat).text,(0:Int),false⟩:Itm).text,(⟨(1:Int),(ge f.hyps (x9.number-(1:Int)).toNat).text,(0:Int),false⟩:Itm).number,x9.tagged⟩from e9))
      ·
       try simp at hb6
       refine ZG tb hJ (r7 [1006]) (V3 [.int (z4.1.1.length:Nat),.int (f.hyps.length+z4.1.1.length:Nat),_,_]) [3,4] U8 rfl ⟨Z3 Zm,Z7,trivial⟩ ?_
       refine cj 7 (fun hb7=>?_) fun hb7=>?_
       ·
        try simp at hb7
        have e9:=item_2 (f:=f) (L:=L) (lb:=z4.1.1) (tg:=tg) hb5 oz oz
        refine fun a w h=>YF (γ:=Unit) (fun ix'=>([.at b 0,.rd (Zf z4.1.1),.int x9.number,.int (x9.number-(1:Int)),.int (f.hyps.length:Nat),.int (x9.number-(1:Int)-(f.hyps.length:Int)),.ptr [lS (ge z4.1.1 (x9.number-(1:Int)-(f.hyps.length:Int)).toNat)],.str (ge z4.1.1 (x9.number-(1:Int)-(f.hyps.length:Int)).toNat),.agg (itC (nmE f L z4.1.1 x9)),.any]:List AV).getD ix' .any) (fun _=>true) [(12,fun _=>.at b11 0),(11,fun _=>.ptr (ltC x9)),(9,fun _=>.ptr [lI (f.hyps.length:Int)]),(10,fun _=>.at b10 0),(6,fun _=>.ptr [Zf z4.1.1]),(2,fun _=>.ptr [.lit (.pointer (some ⟨b,0,none⟩))])] (fun j' _=>match j' with | 0=>(OB.var b11 [lI 0,Zf ([]:List BA),lI 0,lB false]::OB.var b10 [lI (tg:Int)]::OB.var b (mkR d f M wv vs vt n kn y1 y2)::OB.row wv 106 4 (ys.map itC)::OB.mI M L::R') | _=>(OB.var b11 [lI ((nmE f L z4.1.1 x9).kind),Zf ((nmE f L z4.1.1 x9).text),lI ((nmE f L z4.1.1 x9).number),lB ((nmE f L z4.1.1 x9).tagged)]::OB.var b10 [lI (tg:Int)]::OB.var b (mkR d f M wv vs vt n kn y1 y2)::OB.row wv 106 4 (ys.map itC)::OB.mI M L::R')) (fun _ _=>undef) [9] 0 () (fun _=>rfl) h hJ Yr rfl rfl rfl rfl rfl rfl hsb ⟨?_,?_,?_,?_,?_,?_,?_,?_,?_,?_,trivial⟩ ⟨?e24_2_0,trivial⟩ ⟨.old 0 12 _,.old 1 11 _,.old 2 9 _,.old 3 10 _,.old 4 6 _,.old 5 2 _,trivial⟩ ?n24_2
        exact oX rfl fun hx hl=>ZH Xo rfl (hl.env 5 2 _ rfl rfl) hx
        exact oX rfl fun hx hl=>ZH Xg rfl (hl.env 4 6 _ rfl rfl) hx
        exact oX rfl fun hx hl=>Z2 rfl (hl.env 6 13 _ rfl rfl) hx
        exact oX rfl fun hx hl=>Zcn (i:=x9.number) (j:=(1:Int)) rfl (hl.D 2 94 rfl rfl) (Rel.of_lit (.int .i64 1)) sfz sfz hx
        exact oX rfl fun hx hl=>ZH Zay rfl (hl.env 2 9 _ rfl rfl) hx
        exact oX rfl fun hx hl=>Zcn (i:=x9.number-(1:Int)) (j:=(f.hyps.length:Int)) rfl (hl.D 3 95 rfl rfl) (hl.D 4 96 rfl rfl) sfz sfz hx
        exact oX rfl fun hx hl=>ZQ (i:=x9.number-(1:Int)-(f.hyps.length:Int)) Zd rfl (hl.D 1 93 rfl rfl) (hl.D 5 97 rfl rfl) sfz (ZdB (xs:=z4.1.1) (i:=x9.number-(1:Int)-(f.hyps.length:Int)) sfz sfz) rfl hx
        exact oX rfl fun hx hl=>ZH QU rfl (hl.D 6 98 rfl rfl) hx
        exact fun _ O' hO'=>⟨rfl,fun _ _ hk hx hl _=>Y5 (Zol hJ b d f M L wv vs vt n kn y1 y2 (ge z4.1.1 (x9.number-(1:Int)-(f.hyps.length:Int)).toNat) sfz) ZlA rfl (Zq hS _ hk hx) (hx.1) (ZP (Zh hx (hO' _ (mo 2 rfl))) (ZP (Zh hx (hO' _ (mo 4 rfl))) Zv)) (Za (hl.D 0 92 rfl rfl) (Za (hl.D 7 99 rfl rfl) Zg)) (jo hJ hx)⟩
        exact Zl rfl
        case e24_2_0=>exact⟨_,rfl,rfl,rfl,rfl,fun g _ w hk hx hl _=>(by obtain⟨us2,hv2,hr3⟩:=Q3 (hl.D 8 100 rfl rfl);exact Zx (Xl (off:=0) (news:=U4) (es:=U4) (us:=us2) hJ hJ0 XU rfl hk hx (hl.env 0 12 _ rfl rfl) (by rw[hv2];rfl) hr3 (lb rfl) rfl) fun v w' hp=>⟨g,rfl,fun _ _=>rfl,fun e=>(by cases e),hp⟩)⟩
        clear a w h
        intro _
        dsimp only[List.map]
        exact ZkW (⟨(nmE f L z4.1.1 x9).kind,(nmE f L z4.1.1 x9).text,(nmE f L z4.1.1 x9).number,(nmE f L z4.1.1 x9).tagged⟩:Itm) (r6 []) (show Q5 f L z4.1.1 tg x9=some ⟨(⟨(nmE f L z4.1.1 x9).kind,(nmE f L z4.1.1 x9).text,(nmE f L z4.1.1 x9).number,(nmE f L z4.1.1 x9).tagged⟩:Itm).kind,(⟨(nmE f L z4.1.1 x9).kind,(nmE f L z4.1.1 x9).text,(nmE f L z4.1.1 x9).number,(nmE f L z4.1.1 x9).tagged⟩:Itm).text,(⟨(nmE f L z4.1.1 x9).kind,(nmE f L z4.1.1 x9).text,(nmE f L z4.1.1 x9).number,(nmE f L z4.1.1 x9).tagged⟩:Itm).number,x9.tagged⟩from e9)
       ·
        try simp at hb7
        refine ZG tb hJ (r7 [1008]) (V3 [.int (z4.1.1.length:Nat),.int (f.hyps.length+z4.1.1.length:Nat),.int (tg:Nat),.int (f.hyps.length+z4.1.1.length+tg:Nat),_,_]) [3,4,5,6] U8 rfl ⟨Z3 Zm,Z7,fun _ _ _ hx hl _=>Zw Zay rfl (Zh hx (mo 1 rfl)) (hl.env 3 10 _ rfl rfl) rfl hx,Z7,trivial⟩ ?_
        refine cj 7 (fun hb8=>?_) fun hb8=>?_
        ·
         try simp at hb8
         have e9:=item_4 (f:=f) (L:=L) (lb:=z4.1.1) (tg:=tg) hb5 oz oz oz
         refine ZE (snK 1 tb rfl (sy (.int (x9.number-(1:Int))) (fun h=>Zcn (i:=x9.number) (j:=(1:Int)) rfl (h.get 0 rfl) (Rel.of_lit (.int .i64 1)) sfz sfz h.x) ?_))
         refine snK 1 tb rfl (sy (.int (x9.number-(1:Int)-(f.hyps.length:Int))) (fun h=>Zcn (i:=x9.number-(1:Int)) (j:=(f.hyps.length:Int)) rfl (h.get 1 rfl) (h.get 0 rfl) sfz sfz h.x) ?_)
         refine snK 1 tb rfl (sy (.int (z4.1.1.length:Nat)) (fun h=>Zai Zm rfl (h.get 0 rfl) h.x) ?_)
         refine sy (.int (x9.number-(1:Int)-(f.hyps.length:Int)-(z4.1.1.length:Int))) (fun h=>Zcn (i:=x9.number-(1:Int)-(f.hyps.length:Int)) (j:=(z4.1.1.length:Int)) rfl (h.get 2 rfl) (h.get 0 rfl) sfz sfz h.x) ?_
         refine sq (.agg (itC (⟨(4:Int),[],x9.number-(1:Int)-(f.hyps.length:Int)-(z4.1.1.length:Int),false⟩:Itm))) rfl rfl (lb rfl) (fun a _ h=>Yh (ps:=[(0,a.eval (.const (.int .i64 4))),(2,a.eval (.tmp 116))]) (us:=[a.eval (.const (.int .i64 4)),.slice none 0 0,a.eval (.tmp 116),.bool false]) QL rfl yz (Zcx (lb rfl) rfl (Zcx (lb rfl) (Rel.oneC (h.get 0 rfl)) ZcJ)) rfl (Zi (Rel.of_lit (.int .i64 4)) (Ys (.nil _ _ nzl) (Zi (h.get 0 rfl) (Ys (.lit _ True.intro) ZJ)))) h.x) ?_
         refine ZB (b:=b11) (off:=0) (es:=U4) (news:=U4) hJ hJ0 XU rfl rfl rfl (lb rfl) rfl (fun a w h=>⟨(h.get 8 rfl),(h.get 0 rfl)⟩) ?_
         exact seK [8,9,10,11,12,13] U6 rfl (ZkW (⟨(4:Int),([]:List BA),x9.number-(1:Int)-(f.hyps.length:Int)-(z4.1.1.length:Int),false⟩:Itm) (r6 []) (show Q5 f L z4.1.1 tg x9=some ⟨(⟨(4:Int),([]:List BA),x9.number-(1:Int)-(f.hyps.length:Int)-(z4.1.1.length:Int),false⟩:Itm).kind,(⟨(4:Int),([]:List BA),x9.number-(1:Int)-(f.hyps.length:Int)-(z4.1.1.length:Int),false⟩:Itm).text,(⟨(4:Int),([]:List BA),x9.number-(1:Int)-(f.hyps.length:Int)-(z4.1.1.length:Int),false⟩:Itm).number,x9.tagged⟩from e9))
        ·
         try simp at hb8
         refine ZE (Qo (O:=[]) (R:=(OB.var b11 [lI 0,Zf ([]:List BA),lI 0,lB false]::OB.var b10 [lI (tg:Int)]::OB.var b (mkR d f M wv vs vt n kn y1 y2)::OB.row wv 106 4 (ys.map itC)::OB.mI M L::R')) (QT hJ (c:=(21:Int)) ) Xc rfl rfl rfl (lb rfl) hS hJ0 Zv (fun a w h=>(Za (Rel.of_lit (.int .i64 21)) Zg)) (fun _=>?_) (fun i=>i.elim))
         refine kw ZM (kw ZM ?_)
         exact fun a w h=>⟨(⟨(21,wv,ys),Zq8 hb1 z4.2 hb4 (Zo3 hpre r1_ (by rw[←r2_];exact ZvO hb5 oz oz oz))⟩: {q:Int×Value×List Itm // YY f L t= .error q.1}),rfl,h.defs,h.keep,h.x⟩
    ·
     rintro q4 hF
     have g4_1:Q5 f L z4.1.1 tg x9=some ⟨q4.kind,q4.text,q4.number,x9.tagged⟩:=hF
     have e9:=g4_1
     refine Ze (tsq (snK 2 tb rfl (sy (.at b11 3) (fun h=>Zr ZcH rfl (h.get 2 rfl) h.x) ?_)))
     refine Z5 (b:=b11) (off:=3) (es:=U4) hJ hJ0 ZaC rfl rfl rfl (lb rfl) rfl (fun a w h=>⟨(h.get 0 rfl),(h.get 1 rfl)⟩) ?_
     refine seK [3,5,6,7,8] U5 rfl (nx (ZG tb hJ (r5 [1001]) [.at b11 3,.bool x9.tagged] [0,1] U6 rfl ⟨fun _ _ _ hx hl _=>Zr ZcH rfl (hl.env 0 12 _ rfl rfl) hx,fun _ _ _ hx hl _=>Zw Zmi rfl (Zh hx (mo 0 rfl)) (hl.D 0 121 rfl rfl) rfl hx,trivial⟩ ?_))
     refine jnoK (ι:=Nat) (fun tg2=>(tg2=tgN (pre++[x9]))) (fun tg2=>(OB.var b11 [lI q4.kind,Zf q4.text,lI q4.number,lB x9.tagged]::OB.var b10 [lI (tg2:Int)]::OB.var b (mkR d f M wv vs vt n kn y1 y2)::OB.row wv 106 4 (ys.map itC)::OB.mI M L::R')) (fun _=>[(12,.at b11 0),(9,.ptr [lI (f.hyps.length:Int)]),(10,.at b10 0),(6,.ptr [Zf z4.1.1]),(2,.ptr [.lit (.pointer (some ⟨b,0,none⟩))])]) ?_ ?_
     ·
      refine cj 5 (fun hb9=>?_) fun hb9=>?_
      ·
       try simp at hb9
       refine ZE (sq (.int (tg:Nat)) rfl rfl (lb rfl) (fun _ _ h=>Zw Zay rfl (Zh h.x (mo 1 rfl)) (h.get 2 rfl) rfl h.x) ?_)
       refine sy (.int (tg+1:Nat)) (fun h=>ZeR (i:=(tg:Int)) (j:=(1:Int)) rfl (h.get 0 rfl) (Rel.of_lit (.int .i64 1)) sfz sfz h.x) ?_
       refine kw pm1 (Z5 (b:=b10) (off:=0) (es:=[_]) hJ hJ0 ZbY rfl rfl rfl (lb rfl) rfl (fun a w h=>⟨(h.get 4 rfl),(h.get 0 rfl)⟩) ?_)
       refine seK [2,3,4,5,6] U5 rfl (kw pm4 ?_)
       refine kw pm4 (kw pm4 ?_)
       refine kw pm3 (kw pm4 ?_)
       exact ZkW (tg+1) (r5 []) (show(tg+1)=tgN (pre++[x9])from by rw[Zkm,r2_];simp[hb9])
      ·
       try simp at hb9
       exact Zb (ZkW tg (r5 []) (show tg=tgN (pre++[x9])from by rw[Zkm,r2_];simp[hb9]))
     ·
      rintro tg2 hF
      have g9_1:tg2=tgN (pre++[x9]):=hF
      refine tw pm2 (tw pm3 ?_)
      refine fun a w h=>X5 (OB.var b (mkR d f M wv vs vt n kn y1 y2)::OB.var b11 [lI q4.kind,Zf q4.text,lI q4.number,lB x9.tagged]::OB.var b10 [lI (tg2:Int)]::OB.mI M L::R') (γ:=Value) (fun ix'=>([.at b 0,.at b 0,.at b 0,.at b 12,.lit wv,.agg (itC (⟨q4.kind,q4.text,q4.number,x9.tagged⟩:Itm)),.rd (Qv ([(⟨q4.kind,q4.text,q4.number,x9.tagged⟩:Itm)])),.any,.at b 0,.at b 12,.any]:List AV).getD ix' .any) (fun _=>true) [(9,fun _=>.ptr [lI (f.hyps.length:Int)]),(10,fun _=>.at b10 0),(6,fun _=>.ptr [Zf z4.1.1]),(2,fun _=>.ptr [.lit (.pointer (some ⟨b,0,none⟩))])] (fun j' g=>match j' with | 0=>(OB.row wv 106 4 (ys.map itC)::OB.var b (mkR d f M wv vs vt n kn y1 y2)::OB.var b11 [lI q4.kind,Zf q4.text,lI q4.number,lB x9.tagged]::OB.var b10 [lI (tg2:Int)]::OB.mI M L::R') | 1=>(OB.row g 106 4 ((ys++([(⟨q4.kind,q4.text,q4.number,x9.tagged⟩:Itm)])).map itC)::OB.var b (mkR d f M wv vs vt n kn y1 y2)::OB.var b11 [lI q4.kind,Zf q4.text,lI q4.number,lB x9.tagged]::OB.var b10 [lI (tg2:Int)]::OB.mI M L::R') | _=>(OB.row g 106 4 ((ys++([(⟨q4.kind,q4.text,q4.number,x9.tagged⟩:Itm)])).map itC)::OB.var b (mkR d f M g vs vt n kn y1 y2)::OB.var b11 [lI q4.kind,Zf q4.text,lI q4.number,lB x9.tagged]::OB.var b10 [lI (tg2:Int)]::OB.mI M L::R')) (fun k' g=>match k' with | 0=>g | _=>undef) [7,10] 1 (.slice none 0 0) (fun _=>rfl) h hJ Yr rfl rfl rfl rfl rfl rfl hsb ⟨?_,?_,?_,?_,?_,?_,?_,?_,?_,?_,?_,trivial⟩ ⟨?e30_3_0,?e30_3_1,trivial⟩ ⟨.old 1 9 _,.old 2 10 _,.old 3 6 _,.old 4 2 _,trivial⟩ ?n30_3
      exact oX rfl fun hx hl=>ZH Xo rfl (hl.env 4 2 _ rfl rfl) hx
      exact oX rfl fun hx hl=>ZH Xo rfl (hl.env 4 2 _ rfl rfl) hx
      exact oX rfl fun hx hl=>Zy rfl (hl.D 1 126 rfl rfl) hx
      exact oX rfl fun hx hl=>Zr XN rfl (hl.D 2 127 rfl rfl) hx
      exact fun _ O' hO'=>⟨rfl,fun _ _ _ hx hl _=>Zw Zif rfl (Zh hx (hO' _ (mo 0 rfl))) (hl.D 3 128 rfl rfl) rfl hx⟩
      exact fun _ O' hO'=>⟨rfl,fun _ _ _ hx hl _=>Yz (ds:=[lI q4.kind,Zf q4.text,lI q4.number,lB x9.tagged]) Zaw rfl (Zh hx (hO' _ (mo 1 rfl))) (hl.env 0 12 _ rfl rfl) rfl rfl hx⟩
      exact oY rfl fun hk hx hl=>ZeQ Zbl Zkb rfl rfl (hl.D 5 130 rfl rfl) (Zq hS _ hk hx _ nlr) (jo hJ hx)
      exact Zl rfl
      exact oX rfl fun hx hl=>Zy rfl (hl.D 0 125 rfl rfl) hx
      exact oX rfl fun hx hl=>Zr XN rfl (hl.D 8 133 rfl rfl) hx
      exact Zl rfl
      case e30_3_0=>exact⟨_,rfl,rfl,rfl,rfl,fun _ _ w hk hx hl _=>Zx (Qw (f:=itC) ys ([(⟨q4.kind,q4.text,q4.number,x9.tagged⟩:Itm)]) (fun _=>rfl) Zgs hJ hJ0 rfl hk hx (hl.D 4 129 rfl rfl).lit (hl.D 6 131 rfl rfl) sfz sfz) fun v w' hp=>⟨v,rfl,fun k' hk'=>absurd hk' (Nat.not_lt_zero _),fun _=>rfl,hp⟩⟩
      case e30_3_1=>exact⟨_,rfl,rfl,rfl,rfl,fun g _ w hk hx hl hs=>Zx (Zhd (off:=12) (cs:=(mkR d f M wv vs vt n kn y1 y2)) (es:=(mkR d f M g vs vt n kn y1 y2)) (c:=.lit g) hJ hJ0 ZeI rfl hk hx (hl.D 9 134 rfl rfl) (by rw[(hs 0 7 _ 132 oz rfl rfl rfl)];exact Rel.of_lit _ (Zah (hx.2.1 _ (mo 0 rfl)))) (lb rfl) rfl) fun v w' hp=>⟨g,rfl,fun _ _=>rfl,fun e=>(by cases e),hp⟩⟩
      clear a w h
      intro v14
      dsimp only[List.map]
      refine kw pm2 (kw ZM ?_)
      refine kw pm3 (kw pm1 ?_)
      refine kw pm2 (kw pm3 ?_)
      exact kw (fun h=>ZcX (p:=(Xb f L z4.1.1 (pre++[x9]) 0=some (ys++([(⟨q4.kind,q4.text,q4.number,x9.tagged⟩:Itm)])))∧(tg2=tgN (pre++[x9]))∧((ys++([(⟨q4.kind,q4.text,q4.number,x9.tagged⟩:Itm)])).length=(pre++[x9]).length)) (⟨Zml r1_ (by rw[←r2_];exact e9),g9_1,by simp[r3_]⟩) h) (fun a w h=>⟨(v14,ys++([(⟨q4.kind,q4.text,q4.number,x9.tagged⟩:Itm)]),tg2),h.keep,h.x⟩)
   ·
    rintro hfl ⟨wv,ys,tg⟩ D
    refine kw pm1 (Znv fun hF=>?_)
    obtain⟨r1_,r2_,r3_⟩:=hF
    have h9:(Zj z4.1.2).2=false:=by cases h8:(Zj z4.1.2).2<;>simp_all
    refine nxAD (m:=5) ?_
    refine Zug ?_
    refine Zpw ?_
    refine snK 1 tb rfl (sy (.at b 0) (fun h=>Zy rfl (h.get 0 rfl) h.x) ?_)
    refine sy (.at b 12) (fun h=>Zr XN rfl (h.get 0 rfl) h.x) ?_
    refine sy (.lit wv) (fun h=>Zw Zif rfl (Zh h.x (mo 2 rfl)) (h.get 0 rfl) rfl h.x) ?_
    refine sy (.int (ys.length:Nat)) (fun h=>Zb2 (by rw[List.length_map]) ZeC rfl (Zh h.x (mo 3 rfl)) (h.get 0 rfl) h.x) ?_
    refine snK 1 tb rfl (seK [0] [_] rfl ?_)
    refine nxD ?_
    refine d_cj 0 (fun hb10=>?_) fun hb10=>?_
    ·
     try simp at hb10
     refine Zpw ?_
     refine Qo (O:=[]) (R:=(OB.dfr D::OB.var b10 [lI (tg:Int)]::OB.var b (mkR d f M wv vs vt n kn y1 y2)::OB.row wv 106 4 (ys.map itC)::OB.mI M L::R)) (QT hJ (c:=(10:Int)) ) Xc rfl rfl rfl (lb rfl) hS hJ0 Zv (fun a w h=>(Za (Rel.of_lit (.int .i64 10)) Zg)) (fun _=>?_) (fun i=>i.elim)
     refine Zvw hJ hJ0 ?_
     exact kw ZM (fun a w h=>pnP (⟨(10,wv,ys),ZnT hb1 z4.2 hb4 r1_ h9 oz⟩: {q:Int×Value×List Itm // YY f L t= .error q.1}) rfl a w h)
    ·
     try simp at hb10
     refine d_skip ?_
     refine outDn hJ hJ0 ?_
     exact kw ZM (fun a w h=>lvP (Qu  ⟨(wv,ys),by first | (rw[f1_2,ZD oz];exact Zf4 hb1 oz) | exact Zky (ys:=ys) hb1 z4.2 hb4 r1_ h9 oz⟩ rfl h rfl))
   · exact fun s=>s.elim
   ·
    rintro v9 hfl ⟨wv,ys,tg⟩ D
    refine kw pm1 (Znv fun hF=>?_)
    obtain⟨r1_,r2_,r3_⟩:=hF
    obtain⟨h9,rfl⟩:(Zj z4.1.2).2=true∧flV 21=v9:=by cases h8:(Zj z4.1.2).2<;>simp_all
    refine Zvw hJ hJ0 ?_
    exact kw ZM (fun a w h=>pnP (⟨(21,wv,ys),ZnU hb1 z4.2 hb4 r1_ h9⟩: {q:Int×Value×List Itm // YY f L t= .error q.1}) rfl a w h)
   ·
    rintro q' D
    refine Zvw hJ hJ0 ?_
    exact fun a w h=>pnP q' rfl a w h
theorem Zmc {J:WP} (hJ:Stab J) (bm bt b:Nat) (d:Db) (f:Fr) (M:Nat) (L:List (BA×Int)) (vi vs vt:Value) (n:Nat) (kn:Bool) (y1 y2:Int) (t:List BA) (ht:∀ h∈f.hyps++f.dummies,h.text.length≤2000) (hh:f.hyps.length≤2000) (hn:t.length≤100000) (hs:ZaV t≤1000000000):FnP (ι:= {q':Value×List Itm // YY f L t= .ok q'.2}) (κ:= {q:Int×Value×List Itm // YY f L t= .error q.1}) Tryz.prog J 55 [] [.at bm 0,.at bt 0] [OB.var bm [.lit (.pointer (some ⟨b,0,none⟩))],OB.var bt [Zf t],OB.var b (mkR d f M vi vs vt n kn y1 y2),OB.row vi 106 4 (([]:List Itm).map itC),OB.mI M L] (fun _=>.tup []) (fun i'=>[OB.var bm [.lit (.pointer (some ⟨b,0,none⟩))],OB.var bt [Zf t],OB.var b (mkC d f [.lit (.map (some M)),.lit (i'.1.1),.lit vs,.lit vt,lI (n:Int),lB kn,lI y1,lI y2]),OB.row i'.1.1 106 4 ((i'.1.2).map itC),OB.mI M L]) (fun k'=>flV k'.1.1) (fun k'=>[OB.var bm [.lit (.pointer (some ⟨b,0,none⟩))],OB.var bt [Zf t],OB.var b (mkC d f [.lit (.map (some M)),.lit (k'.1.2.1),.lit vs,.lit vt,lI (n:Int),lB kn,lI y1,lI y2]),OB.row k'.1.2.1 106 4 ((k'.1.2.2).map itC),OB.mI M L]):=by
 refine fEP Tryz.func55 fun S w0 R hS hJ0 hH=>?_
 refine Yq (B:=So J S w0 5 (OB.var bm [.lit (.pointer (some ⟨b,0,none⟩))]::OB.var bt [Zf t]::OB.var b (mkR d f M vi vs vt n kn y1 y2)::OB.row vi 106 4 (([]:List Itm).map itC)::OB.mI M L::R) [(0,.at bm 0),(1,.at bt 0)]) ?_ fun a w h=>h
 refine ZE (sq (.at b 0) rfl rfl (lb rfl) (fun _ _ h=>Zw Xo rfl (Zh h.x (mo 0 rfl)) (h.get 0 rfl) rfl h.x) ?_)
 refine sy (.rd (Zf t)) (fun h=>Zw Xg rfl (Zh h.x (mo 1 rfl)) (h.get 2 rfl) rfl h.x) ?_
 refine kw pm1 (kw pm1 ?_)
 refine kw pm4 (kw pm4 ?_)
 refine kw pm4 (Qo (O:=[OB.var b (mkR d f M vi vs vt n kn y1 y2),OB.row vi 106 4 (([]:List Itm).map itC),OB.mI M L]) (R:=(OB.var bm [.lit (.pointer (some ⟨b,0,none⟩))]::OB.var bt [Zf t]::R)) (p_read hJ b d f M L vi vs vt n kn y1 y2 t sfz sfz sfz sfz) Zwy rfl rfl rfl (lb rfl) hS hJ0 Zv (fun a w h=>(Za (h.get 1 rfl) (Za (h.get 0 rfl) Zg))) (fun k2=>?_) fun z1=>?_)
 ·
  refine kw pm2 (kw pm2 ?_)
  refine kw pm2 (kw pm4 ?_)
  exact kw pm4 (fun a w h=>pnP (⟨(k2.1.1,k2.1.2.1,k2.1.2.2),k2.2⟩: {q:Int×Value×List Itm // YY f L t= .error q.1}) rfl a w h)
 refine seK [1] [_] rfl (kw pm2 ?_)
 refine kw pm2 (kw pm2 ?_)
 refine kw pm4 (kw pm4 ?_)
 exact fun a w h=>lvP (Qu  ⟨(z1.1.1,z1.1.2),z1.2⟩ rfl h rfl)
abbrev GR (f:Fr) (L:List (BA×Int)) (t:List BA):Type:= {q:Int×Value×List Itm // (q.1=0∧YY f L t= .ok q.2.2)∨(q.1≠0∧YY f L t= .error q.1)}
theorem Zq9 {f:Fr} {L:List (BA×Int)} {t:List BA} {c:Int} (h:YY f L t= .error c):c≠0:=by
 unfold YY at h
 split at h
 · split at h
   · injection h with h;omega
   · cases h
 split at h
 · injection h with h;omega
 split at h
 · injection h with h;omega
 split at h
 · injection h with h;omega
 split at h
 · injection h with h;omega
 split at h
 · injection h with h;omega
 · cases h
theorem Zvj {J:WP} (hJ:Stab J) (bm bt b:Nat) (d:Db) (f:Fr) (M:Nat) (L:List (BA×Int)) (vi vs vt:Value) (n:Nat) (kn:Bool) (y1 y2:Int) (t:List BA) (ht:∀ h∈f.hyps++f.dummies,h.text.length≤2000) (hh:f.hyps.length≤2000) (hn:t.length≤100000) (hs:ZaV t≤1000000000):
 FnM (ι:=(GR f L t)) Tryz.prog J 54 [] [.lit (.func (.func 55) #[] #[.pointer (some ⟨bm,0,none⟩),.pointer (some ⟨bt,0,none⟩)])] [OB.var bm [.lit (.pointer (some ⟨b,0,none⟩))],OB.var bt [Zf t],OB.var b (mkR d f M vi vs vt n kn y1 y2),OB.row vi 106 4 (([]:List Itm).map itC),OB.mI M L] (fun i'=>.int i'.1.1) (fun i'=>[OB.var bm [.lit (.pointer (some ⟨b,0,none⟩))],OB.var bt [Zf t],OB.var b (mkC d f [.lit (.map (some M)),.lit (i'.1.2.1),.lit vs,.lit vt,lI (n:Int),lB kn,lI y1,lI y2]),OB.row i'.1.2.1 106 4 ((i'.1.2.2).map itC),OB.mI M L]):=by
 have h4:=Zh0 (F:=55) (caps:=[.pointer (some ⟨bm,0,none⟩),.pointer (some ⟨bt,0,none⟩)]) (pc:=fun k: {q:Int×Value×List Itm // YY f L t= .error q.1}=>k.1.1) hJ (Zmc hJ bm bt b d f M L vi vs vt n kn y1 y2 t ht hh hn hs) (Zp Tryz.func55 rfl rfl) (by intro v hv;simp at hv;rcases hv with rfl | rfl<;>exact True.intro)
 refine(h4.map (ι':=(GR f L t)) (fun r=>match r with | .inl i=>⟨(0,i.1),.inl ⟨rfl,i.2⟩⟩ | .inr k=>⟨k.1,.inr ⟨Zq9 k.2,k.2⟩⟩) ?_ ?_)
 · rintro(i | k)<;>rfl
 · rintro(i | k)<;>rfl
theorem Zqm:Zus Tryz.prog 86:=fun x1 x2 x3 y1 y2 y3 y4 y5 y6 y7 y8 m=>by kernel_rfl
theorem ZhY {J:WP} (hJ:Stab J) (d:Db) (n:Nat) (t:List BA) (hn:n<d.frames.length) (hfl:d.frames.length≤400) (ht:∀ h∈(ge d.frames n).hyps++(ge d.frames n).dummies,h.text.length≤2000) (hh:(ge d.frames n).hyps.length≤2000) (hl:t.length≤100000) (hs:ZaV t≤1000000000):FnM (ι:=Nat×Value×Value×Value) Tryz.prog J 40 [] [.agg (dbC d),.int (n:Nat),.rd (Zf t)] [] (fun i'=>.at (i'.1) 0) (fun i'=>[OB.var (i'.1) (mkC d (ge d.frames n) [.lit (i'.2.1),Qv (Yi d n t),.lit (i'.2.2.1),.lit (i'.2.2.2),lI (((XK d n t).n:Nat):Int),lB ((XK d n t).kn),lI ((XK d n t).v.1),lI ((XK d n t).v.2)]),OB.row i'.2.2.1 22 1 (((XK d n t).sk).map Zn),OB.row i'.2.2.2 22 1 (((XK d n t).tg).map Zn)]):=by
 refine fEM Tryz.func40 fun S w0 R hS hJ0 hH=>?_
 refine Yq (B:=So J S w0 49 (R) [(0,.agg (dbC d)),(1,.int (n:Nat)),(2,.rd (Zf t))]) ?_ fun a w h=>h
 refine ln 2 fun hl1=>?_
 obtain⟨ui,hui⟩:∃ v,v=Value.slice none 0 0:=⟨_,rfl⟩
 obtain⟨us,hus⟩:∃ v,v=Value.slice none 0 0:=⟨_,rfl⟩
 obtain⟨ut,hut⟩:∃ v,v=Value.slice none 0 0:=⟨_,rfl⟩
 refine tsq (sy (.ptr (dbC d)) (fun h=>ZdD rfl (h.get 0 rfl) (Zq hS _ h.keep h.x _ nlr) (jo hJ h.x)) ?_)
 refine ZnA (c:=Zf t) hJ rfl rfl rfl (lb rfl) (fun a w h=>(h.get 3 rfl)) fun b1=>?_
 refine snK 1 tb rfl (seK [1,2,4] U3 rfl ?_)
 refine nx (Ze (fun a w h=>Zq6 (γ:=Nat×Value×Nat×Nat) (fun ix'=>([.agg (dbC d),.ptr [Zb9 d.frames],.rd (Zb9 d.frames),.int (n:Nat),.ptr (frC (ge d.frames n)),.agg (frC (ge d.frames n)),.any,.any,.any,.any,.any]:List AV).getD ix' .any) (fun _=>true) [(5,fun _=>.at b1 0),(3,fun _=>.ptr (dbC d)),(1,fun _=>.int (n:Nat)),(7,fun g=>.at g.2.2.2 0)] (fun(D:Nat→Bool) (g:Nat×Value×Nat×Nat)=>(if D 2 then [OB.var g.2.2.1 (mkC d (ge d.frames n) [.lit (.map (some g.1)),.lit (.slice none 0 0),.lit (.slice none 0 0),.lit (.slice none 0 0),lI (0:Int),lB false,lI (0:Int),lI (0:Int)])]else if D 1 then [Zuw (mkC d (ge d.frames n) [.lit (.map (some g.1)),.lit (.slice none 0 0),.lit (.slice none 0 0),.lit (.slice none 0 0),lI (0:Int),lB false,lI (0:Int),lI (0:Int)]) g.2.1]else [])++((if D 0 then [OB.mI g.1 []]else [])++((if D 4 then [OB.var g.2.2.2 [.lit (.pointer (some ⟨g.2.2.1,0,none⟩))]]else if D 3 then [OB.var g.2.2.2 [.lit (.pointer none)]]else [])++(OB.var b1 [Zf t]::R)))) (fun k' g=>match k' with | 0=>.map (some g.1) | 1=>g.2.1 | 2=>.pointer (some ⟨g.2.2.1,0,none⟩) | 3=>.pointer (some ⟨g.2.2.2,0,none⟩) | _=>undef) [6,7,8,9,10] (0,undef,0,0) (fun _=>rfl) h hJ Yr rfl rfl rfl rfl (fun D g p hp=>List.mem_append_right _ (List.mem_append_right _ (List.mem_append_right _ hp))) ⟨?_,?_,?_,?_,?_,?_,?_,?_,?_,?_,?_,trivial⟩ ⟨?e0,?e1,?e2,?e3,?e4,trivial⟩ ⟨.old 0 5 _,.old 1 3 _,.old 2 1 _,.eff 3 9 7 (fun(g:Nat×Value×Nat×Nat)=>.pointer (some ⟨g.2.2.2,0,none⟩)) rfl rfl (fun _=>rfl) (fun _=>True.intro),trivial⟩ ?n1))
 exact oX rfl fun hx hl=>ZaN Zdr rfl (hl.env 1 3 _ rfl rfl) nlr hx
 exact oX rfl fun hx hl=>ZN Qi rfl (hl.env 1 3 _ rfl rfl) hx
 exact oX rfl fun hx hl=>ZH ZeX rfl (hl.D 1 11 rfl rfl) hx
 exact oX rfl fun hx hl=>Z2 rfl (hl.env 2 1 _ rfl rfl) hx
 exact oX rfl fun hx hl=>ZQ (i:=(n:Int)) ZV rfl (hl.D 2 12 rfl rfl) (hl.D 3 13 rfl rfl) nnn (Z0 (xs:=d.frames) (k:=n) sfz) rfl hx
 exact oX rfl fun hx hl=>ZaN Zev rfl (hl.D 4 14 rfl rfl) nlr hx
 exact Zl rfl
 exact Zl rfl
 exact Zl rfl
 exact Zl rfl
 exact Zl rfl
 case e0=>
  refine⟨_,rfl,rfl,rfl,rfl,fun D g a w hD hpre hcl hk hx hl hs=>?_⟩
  have d0:=hD
  have d1:D 1=false:=by cases hq:D 1 with | false=>rfl | true=>exact absurd (hcl 1 0 7 6 rfl rfl hq dz) (by simp[d0])
  have d2:D 2=false:=by cases hq:D 2 with | false=>rfl | true=>exact absurd (hcl 2 1 8 7 rfl rfl hq dz) (by simp[d1])
  have d4:D 4=false:=by cases hq:D 4 with | false=>rfl | true=>exact absurd (hcl 4 2 10 8 rfl rfl hq dz) (by simp[d2])
  simp only[ZlY,d0,d1,d2,d4,if_true,if_false,Bool.false_eq_true,List.nil_append,Nat.reduceEqDiff,List.cons_append]at hx hl ⊢
  exact Zx (d_map keyS (fun z':Int=>AV.int z') hJ rfl hk hx) fun v w' ⟨M',hv,hp⟩=>⟨(M',g.2),(fun k' hk'=>by rcases k' with _ | _ | _ | _ | k'<;>first | rfl | simp_all),fun _=>hv,hp⟩
 case e1=>
  refine⟨_,rfl,rfl,rfl,rfl,fun D g a w hD hpre hcl hk hx hl hs=>?_⟩
  have d1:=hD
  have d0:D 0=true:=hpre 0 6 rfl dz
  have d2:D 2=false:=by cases hq:D 2 with | false=>rfl | true=>exact absurd (hcl 2 1 8 7 rfl rfl hq dz) (by simp[d1])
  have d4:D 4=false:=by cases hq:D 4 with | false=>rfl | true=>exact absurd (hcl 4 2 10 8 rfl rfl hq dz) (by simp[d2])
  simp only[ZlY,d0,d1,d2,d4,if_true,if_false,Bool.false_eq_true,List.nil_append,Nat.reduceEqDiff,List.cons_append]at hx hl ⊢
  exact Zx (Zsg (cs:=(mkC d (ge d.frames n) [.lit (.map (some g.1)),.lit (.slice none 0 0),.lit (.slice none 0 0),.lit (.slice none 0 0),lI (0:Int),lB false,lI (0:Int),lI (0:Int)])) hk (Zrm (d:=d) (f:=(ge d.frames n)) (m:=g.1) Zqm rfl (hl.D 0 10 rfl rfl) (hl.D 5 15 rfl rfl) (hs 0 6 _ 16 d0 rfl rfl rfl) hx)) fun v w' hp=>⟨(g.1,v,g.2.2),(fun k' hk'=>by rcases k' with _ | _ | _ | _ | k'<;>first | rfl | simp_all),fun _=>rfl,hp⟩
 case e2=>
  refine⟨_,rfl,rfl,rfl,rfl,fun D g a w hD hpre hcl hk hx hl hs=>?_⟩
  have d2:=hD
  have d1:D 1=true:=hpre 1 7 rfl dz
  have d0:D 0=true:=hpre 0 6 rfl dz
  have d4:D 4=false:=by cases hq:D 4 with | false=>rfl | true=>exact absurd (hcl 4 2 10 8 rfl rfl hq dz) (by simp[d2])
  simp only[ZlY,d0,d1,d2,d4,if_true,if_false,Bool.false_eq_true,List.nil_append,Nat.reduceEqDiff,List.cons_append]at hx hl ⊢
  exact Zx (d_boxW (cs:=(mkC d (ge d.frames n) [.lit (.map (some g.1)),.lit (.slice none 0 0),.lit (.slice none 0 0),.lit (.slice none 0 0),lI (0:Int),lB false,lI (0:Int),lI (0:Int)])) hJ rfl (hs 1 7 _ 17 d1 rfl rfl rfl) hk hx) fun v w' ⟨b',hv,hp⟩=>⟨(g.1,g.2.1,b',g.2.2.2),(fun k' hk'=>by rcases k' with _ | _ | _ | _ | k'<;>first | rfl | simp_all),fun _=>hv,hp⟩
 case e3=>
  refine⟨_,rfl,rfl,rfl,rfl,fun D g a w hD hpre hcl hk hx hl hs=>?_⟩
  have d3:=hD
  have d4:D 4=false:=by cases hq:D 4 with | false=>rfl | true=>exact absurd (hcl 4 3 10 9 rfl rfl hq dz) (by simp[d3])
  simp only[ZlY,d3,d4,if_true,if_false,Bool.false_eq_true,List.nil_append,Nat.reduceEqDiff,List.cons_append]at hx hl ⊢
  simp only[←List.append_assoc]at hx ⊢
  exact Zx (ZaQ Zne hJ rfl hk hx) fun v w' ⟨b',hv,hp⟩=>⟨(g.1,g.2.1,g.2.2.1,b'),(fun k' hk'=>by rcases k' with _ | _ | _ | _ | k'<;>first | rfl | simp_all),fun _=>hv,ZeG (.refl _) perm_mid.symm hp⟩
 case e4=>
  refine⟨_,rfl,rfl,rfl,rfl,fun D g a w hD hpre hcl hk hx hl hs=>?_⟩
  have d4:=hD
  have d3:D 3=true:=hpre 3 9 rfl dz
  have d2:D 2=true:=hpre 2 8 rfl dz
  have d1:D 1=true:=hpre 1 7 rfl dz
  have d0:D 0=true:=hpre 0 6 rfl dz
  simp only[ZlY,d0,d1,d2,d3,d4,if_true,if_false,Bool.false_eq_true,List.nil_append,Nat.reduceEqDiff,List.cons_append]at hx hl ⊢
  refine Zx (Xl (S':=S) (off:=0) (news:=[_]) (es:=[_]) (us:=[.pointer (some ⟨g.2.2.1,0,none⟩)]) hJ hJ0 ZnE rfl hk (YH perm_3 hx) (Zcs (hs 3 9 _ 7 d3 rfl rfl rfl)) (by rw[hs 2 8 _ 18 d2 rfl rfl rfl];rfl) ⟨.lit _ True.intro,trivial⟩ (lb rfl) rfl) fun v w' hp=>⟨g,fun _ _=>rfl,fun e=>(by cases e),ZeG perm_3.symm perm_3.symm hp⟩
 clear a w h
 rintro⟨m3,x5,b2,b4⟩
 dsimp only[List.map]
 refine kw (ob0 (show OB.var b2 (mkC d (ge d.frames n) [.lit (.map (some m3)),.lit (.slice none 0 0),.lit (.slice none 0 0),.lit (.slice none 0 0),lI (0:Int),lB false,lI (0:Int),lI (0:Int)])=OB.var b2 (mkC d (ge d.frames n) [.lit (.map (some m3)),.lit ui,.lit us,.lit ut,lI (0:Int),lB false,lI (0:Int),lI (0:Int)])from by rw[hui,hus,hut])) (kw (YS 106 4 hJ) ?_)
 refine kw (ob0 (show OB.row (.slice none 0 0) 106 4 []=OB.row ui 106 4 (([]:List Itm).map itC)from by rw[hui];rfl)) (kw (YS 22 1 hJ) ?_)
 refine kw (ob0 (show OB.row (.slice none 0 0) 22 1 []=OB.row us 22 1 (([]:List (List BA)).map Zn)from by rw[hus];rfl)) (kw (YS 22 1 hJ) ?_)
 refine kw (ob0 (show OB.row (.slice none 0 0) 22 1 []=OB.row ut 22 1 (([]:List (List BA)).map Zn)from by rw[hut];rfl)) (nx (Ze (qso tb hJ [0,1,3,1000,1001] U2 U5 ?_)))
 refine Zc (lpo (ι:=Nat×(List (BA×Int))) (fun(k,L)=>(k≤n)∧(L=Zam (d.frames.take k))) (fun(_,L)=>(OB.row ut 22 1 (([]:List (List BA)).map Zn)::OB.row us 22 1 (([]:List (List BA)).map Zn)::OB.row ui 106 4 (([]:List Itm).map itC)::OB.var b2 (mkC d (ge d.frames n) [.lit (.map (some m3)),.lit ui,.lit us,.lit ut,lI (0:Int),lB false,lI (0:Int),lI (0:Int)])::OB.mI m3 L::OB.var b4 [.lit (.pointer (some ⟨b2,0,none⟩))]::OB.var b1 [Zf t]::R)) (fun(k,_)=>[(20,.int (k:Nat))]) (fun(k,_)=>n-k) (r5 []) U4 (0,([]:List (BA×Int))) ⟨nzl,namL_nil.symm⟩ ?_)
 rintro⟨k,L⟩ ⟨f1_1,f1_2⟩
 refine qso tb hJ (r5 [1000]) [_] U6 ?_
 refine cjS 5 (fun hb1=>?_) fun hb1=>?_
 ·
  try simp at hb1
  refine Zb (nx (Ze (Zc (qso tb hJ (r5 [1001]) U2 U6 ?_))))
  refine tw pm4 (fun a w h=>YF (γ:=Unit) (fun ix'=>([.at b2 0,.at b2 0,.at b2 11,.lit (.map (some m3)),.ptr [Zb9 d.frames],.rd (Zb9 d.frames),.int (k:Nat),.ptr (frC (ge d.frames k)),.ptr (frC (ge d.frames k)),.str ((ge d.frames k).label),.int (k:Nat),.any]:List AV).getD ix' .any) (fun _=>true) [(5,fun _=>.at b1 0),(3,fun _=>.ptr (dbC d)),(7,fun _=>.at b4 0),(19,fun _=>.int (n:Nat)),(20,fun _=>.int (k:Nat))] (fun j' _=>match j' with | 0=>(OB.mI m3 L::OB.row ut 22 1 (([]:List (List BA)).map Zn)::OB.row us 22 1 (([]:List (List BA)).map Zn)::OB.row ui 106 4 (([]:List Itm).map itC)::OB.var b2 (mkC d (ge d.frames n) [.lit (.map (some m3)),.lit ui,.lit us,.lit ut,lI (0:Int),lB false,lI (0:Int),lI (0:Int)])::OB.var b4 [.lit (.pointer (some ⟨b2,0,none⟩))]::OB.var b1 [Zf t]::R) | _=>(OB.mI m3 (Zbc L ((ge d.frames k).label) (k:Int))::OB.row ut 22 1 (([]:List (List BA)).map Zn)::OB.row us 22 1 (([]:List (List BA)).map Zn)::OB.row ui 106 4 (([]:List Itm).map itC)::OB.var b2 (mkC d (ge d.frames n) [.lit (.map (some m3)),.lit ui,.lit us,.lit ut,lI (0:Int),lB false,lI (0:Int),lI (0:Int)])::OB.var b4 [.lit (.pointer (some ⟨b2,0,none⟩))]::OB.var b1 [Zf t]::R)) (fun _ _=>undef) [11] 0 () (fun _=>rfl) h hJ Yr rfl rfl rfl rfl rfl rfl hsb ⟨?_,?_,?_,?_,?_,?_,?_,?_,?_,?_,?_,?_,trivial⟩ ⟨?e5_1_0,trivial⟩ ⟨.old 0 5 _,.old 1 3 _,.old 2 7 _,.old 3 19 _,.old 4 20 _,trivial⟩ ?n5_1)
  exact fun _ O' hO'=>⟨rfl,fun _ _ _ hx hl _=>Zw Xo rfl (Zh hx (hO' _ (mo 5 rfl))) (hl.env 2 7 _ rfl rfl) rfl hx⟩
  exact oX rfl fun hx hl=>Zy rfl (hl.D 0 23 rfl rfl) hx
  exact oX rfl fun hx hl=>Zr Zfe rfl (hl.D 1 24 rfl rfl) hx
  exact fun _ O' hO'=>⟨rfl,fun _ _ _ hx hl _=>Zw Zt7 rfl (Zh hx (hO' _ (mo 4 rfl))) (hl.D 2 25 rfl rfl) rfl hx⟩
  exact oX rfl fun hx hl=>ZN Qi rfl (hl.env 1 3 _ rfl rfl) hx
  exact oX rfl fun hx hl=>ZH ZeX rfl (hl.D 4 27 rfl rfl) hx
  exact oX rfl fun hx hl=>Z2 rfl (hl.env 5 8 _ rfl rfl) hx
  exact oX rfl fun hx hl=>ZQ (i:=(k:Int)) ZV rfl (hl.D 5 28 rfl rfl) (hl.D 6 29 rfl rfl) nnn (Z0 (xs:=d.frames) (k:=k) sfz) rfl hx
  exact oX rfl fun hx hl=>ZN ZdL rfl (hl.D 7 30 rfl rfl) hx
  exact oX rfl fun hx hl=>ZH QU rfl (hl.D 8 31 rfl rfl) hx
  exact oX rfl fun hx hl=>Z2 rfl (hl.env 5 8 _ rfl rfl) hx
  exact Zl rfl
  case e5_1_0=>exact⟨_,rfl,rfl,rfl,rfl,fun g _ w hk hx hl _=>Zx (Zpx (f:=(fun z':Int=>AV.int z')) Ze1 hJ hJ0 ((ge d.frames k).label) (k:Int) (.inl rfl) hk hx (hl.D 3 26 rfl rfl) (hl.D 9 32 rfl rfl) (hl.D 10 33 rfl rfl)) fun v w' ⟨_,hp⟩=>⟨g,rfl,fun _ _=>rfl,fun e=>(by cases e),hp⟩⟩
  clear a w h
  intro _
  dsimp only[List.map]
  refine nx (Yo tb hJ [0,1,2,3,1001] [.int (k+1:Nat),_] [0] U5 rfl ⟨Z7,trivial⟩ ?_)
  refine kw pm6 (kw pm6 ?_)
  refine kw pm2 (kw pm6 ?_)
  refine kw pm6 (kw pm6 ?_)
  exact kw pm6 (YE (k+1,Zbc L ((ge d.frames k).label) (k:Int)) (r5 []) ⟨oz,by rw[f1_2];exact(Zc6 oz).symm⟩)
 ·
  try simp at hb1
  have hL:L=Zam (d.frames.take n):=by rw[f1_2,show k=n by omega]
  refine Zs (nx (Ze (tsq (sy (.lit (.func (.func 55) #[] #[.pointer (some ⟨b4,0,none⟩),.pointer (some ⟨b1,0,none⟩)])) (fun h=>ZhR (caps:=[(.tmp 7),(.tmp 5)]) rfl (map_cons (h.get 2 rfl).lit (map_cons (h.get 0 rfl).lit map_nil)) h.x) ?_))))
  refine kw pm1 (kw pm1 ?_)
  refine kw pm4 (kw pm3 ?_)
  refine kw pm4 (kw pm6 ?_)
  refine kw pm6 (Xv (O:=[OB.var b4 [.lit (.pointer (some ⟨b2,0,none⟩))],OB.var b1 [Zf t],OB.var b2 (mkC d (ge d.frames n) [.lit (.map (some m3)),.lit ui,.lit us,.lit ut,lI (0:Int),lB false,lI (0:Int),lI (0:Int)]),OB.row ui 106 4 (([]:List Itm).map itC),OB.mI m3 L]) (R:=(OB.row ut 22 1 (([]:List (List BA)).map Zn)::OB.row us 22 1 (([]:List (List BA)).map Zn)::R)) (Zvj hJ b4 b1 b2 d (ge d.frames n) m3 L ui us ut 0 false (0:Int) (0:Int) t (by exact ht) (by exact hh) (by exact hl) (by exact hs)) ZpX rfl rfl rfl (lb rfl) hS hJ0 Zv (fun a w h=>(Za (h.get 0 rfl) Zg)) fun z6=>?_)
  refine snK 1 tb rfl (seK [0,5] U2 rfl ?_)
  refine nx (qso tb hJ [0,1,1001] U2 U3 ?_)
  refine cj 2 (fun hb2=>?_) fun hb2=>?_
  ·
   try simp at hb2
   have e5:=ZvE (d:=d) (n:=n) (t:=t) (c:=z6.1.1) (by rcases z6.2 with h9 | h9;exact absurd h9.1 hb2;rw[←hL];exact h9.2)
   refine tsq (sy (.at b2 0) (fun h=>Zw Xo rfl (Zh h.x (mo 0 rfl)) (h.get 1 rfl) rfl h.x) ?_)
   refine sy (.at b2 0) (fun h=>Zy rfl (h.get 0 rfl) h.x) ?_
   refine sy (.at b2 12) (fun h=>Zr XN rfl (h.get 0 rfl) h.x) ?_
   refine kw pm2 (Z5 (b:=b2) (off:=12) (cs:=(mkC d (ge d.frames n) [.lit (.map (some m3)),.lit z6.1.2.1,.lit us,.lit ut,lI ((0:Nat):Int),lB false,lI (0:Int),lI (0:Int)])) (es:=(mkC d (ge d.frames n) [.lit (.map (some m3)),Qv ([]:List Itm),.lit us,.lit ut,lI ((0:Nat):Int),lB false,lI (0:Int),lI (0:Int)])) hJ hJ0 ZeI rfl rfl rfl (lb rfl) rfl (fun a w h=>⟨(h.get 0 rfl),(ZgY (Rel.of_lit (.slice none 0 0)))⟩) ?_)
   refine seK [3,4] U2 rfl (nx (tsq ?_))
   refine sy (.at b2 0) (fun h=>Zw Xo rfl (Zh h.x (mo 1 rfl)) (h.get 1 rfl) rfl h.x) ?_
   refine snK 1 tb rfl (Xv (O:=[OB.var b2 (mkC d (ge d.frames n) [.lit (.map (some m3)),Qv ([]:List Itm),.lit us,.lit ut,lI ((0:Nat):Int),lB false,lI (0:Int),lI (0:Int)])]) (R:=(OB.var b4 [.lit (.pointer (some ⟨b2,0,none⟩))]::OB.var b1 [Zf t]::OB.row z6.1.2.1 106 4 (z6.1.2.2.map itC)::OB.mI m3 L::OB.row ut 22 1 (([]:List (List BA)).map Zn)::OB.row us 22 1 (([]:List (List BA)).map Zn)::R)) (ZhZ hJ b2 d (ge d.frames n) (.map (some m3)) ([]:List Itm) 0 us ut false (0:Int) (0:Int) z6.1.1 (0:Int)) Zfs rfl rfl rfl (lb rfl) hS hJ0 Zv (fun a w h=>(Za (h.get 1 rfl) (Za (h.get 0 rfl) (Za (Rel.of_lit (.int .i64 0)) Zg)))) fun _=>?_)
   refine seK [4] [_] rfl (nx (ZG tb hJ [1001] [.at b2 0,_] [0] [_] rfl ⟨fun _ _ _ hx hl _=>Zw Xo rfl (Zh hx (mo 1 rfl)) (hl.env 0 7 _ rfl rfl) rfl hx,trivial⟩ ?_))
   refine tw pm1 (tw ZM ?_)
   refine tw pm1 (tw ZM ?_)
   refine tw pm1 (tw ZM ?_)
   refine tw pm1 (tw ZM ?_)
   refine tw pm1 (tw pm2 ?_)
   refine tw pm2 (tw (ob0 (show OB.var b2 (mkC d (ge d.frames n) [.lit (.map (some m3)),Qv ([]:List Itm),.lit us,.lit ut,lI ((0:Nat):Int),lB true,lI z6.1.1,lI (0:Int)])=OB.var b2 (mkC d (ge d.frames n) [.lit (.map (some m3)),Qv (Yi d n t),.lit us,.lit ut,lI (((XK d n t).n:Nat):Int),lB ((XK d n t).kn),lI ((XK d n t).v.1),lI ((XK d n t).v.2)])from by first | (rw[e5.1,e5.2.2.2.1,e5.2.2.2.2.1,e5.2.2.2.2.2.1,e5.2.2.2.2.2.2];done) | (rw[e5.1,e5.2.2.2.1,e5.2.2.2.2.1,e5.2.2.2.2.2.1,e5.2.2.2.2.2.2];rfl) | (rw[e5.2.1]) | (rw[e5.2.2.1]))) ?_)
   refine tw (ob1 (congrArg (fun z'=>OB.row us 22 1 ((z').map Zn)) (show([]:List (List BA))=((XK d n t).sk)from by first | (rw[e5.1,e5.2.2.2.1,e5.2.2.2.2.1,e5.2.2.2.2.2.1,e5.2.2.2.2.2.2];done) | (rw[e5.1,e5.2.2.2.1,e5.2.2.2.2.1,e5.2.2.2.2.2.1,e5.2.2.2.2.2.2];rfl) | (rw[e5.2.1]) | (rw[e5.2.2.1])))) (tw (ob2 (congrArg (fun z'=>OB.row ut 22 1 ((z').map Zn)) (show([]:List (List BA))=((XK d n t).tg)from by first | (rw[e5.1,e5.2.2.2.1,e5.2.2.2.2.1,e5.2.2.2.2.2.1,e5.2.2.2.2.2.2];done) | (rw[e5.1,e5.2.2.2.1,e5.2.2.2.2.1,e5.2.2.2.2.2.1,e5.2.2.2.2.2.2];rfl) | (rw[e5.2.1]) | (rw[e5.2.2.1])))) ?_)
   exact ZA (fun a w h=>Yg  (m:=0) (b2,(.map (some m3)),us,ut) rfl h rfl rfl)
  ·
   try simp at hb2
   have e5:=mch_ok (d:=d) (n:=n) (t:=t) (xs:=z6.1.2.2) (by rcases z6.2 with h9 | h9;rw[←hL];exact h9.2;exact absurd hb2 h9.1)
   refine Zb (nx (tw pm2 (tw pm3 ?_)))
   refine tw (fun h=>ZcW (j:=12) (cs':=(mkC d (ge d.frames n) [.lit (.map (some m3)),Qv z6.1.2.2,.lit us,.lit ut,lI ((0:Nat):Int),lB false,lI (0:Int),lI (0:Int)])) hS rfl rfl h) (tsq ?_)
   refine sy (.at b2 0) (fun h=>Zw Xo rfl (Zh h.x (mo 1 rfl)) (h.get 1 rfl) rfl h.x) ?_
   refine kw pm4 (kw pm4 ?_)
   refine kw pm4 (kw pm4 ?_)
   refine kw pm5 (kw pm5 ?_)
   refine Xv (O:=[OB.var b2 (mkC d (ge d.frames n) [.lit (.map (some m3)),Qv z6.1.2.2,.lit us,.lit ut,lI ((0:Nat):Int),lB false,lI (0:Int),lI (0:Int)]),OB.row us 22 1 (([]:List (List BA)).map Zn)]) (R:=(OB.var b4 [.lit (.pointer (some ⟨b2,0,none⟩))]::OB.var b1 [Zf t]::OB.mI m3 L::OB.row ut 22 1 (([]:List (List BA)).map Zn)::R)) (Zvl hJ b2 d (ge d.frames n) (.map (some m3)) z6.1.2.2 us ut 0 false (0:Int) (0:Int) ([]:List (List BA))) ZjT rfl rfl rfl (lb rfl) hS hJ0 Zv (fun a w h=>(Za (h.get 0 rfl) Zg)) fun _=>?_
   refine seK [3] [_] rfl (nx (ZG tb hJ [1001] [.at b2 0,_] [0] [_] rfl ⟨fun _ _ _ hx hl _=>Zw Xo rfl (Zh hx (mo 2 rfl)) (hl.env 0 7 _ rfl rfl) rfl hx,trivial⟩ ?_))
   refine tw pm2 (tw ZM ?_)
   refine tw pm2 (tw ZM ?_)
   refine tw pm2 (tw ZM ?_)
   refine tw (ob0 (show OB.var b2 (mkC d (ge d.frames n) [.lit (.map (some m3)),Qv z6.1.2.2,.lit us,.lit ut,lI ((0:Nat):Int),lB (false|| !decide (0<z6.1.2.2.length)),lI (if 0<z6.1.2.2.length then(0:Int)else(Zde (ge d.frames n) ([]:List (List BA)) 0).1),lI (if 0<z6.1.2.2.length then(0:Int)else(Zde (ge d.frames n) ([]:List (List BA)) 0).2)])=OB.var b2 (mkC d (ge d.frames n) [.lit (.map (some m3)),Qv (Yi d n t),.lit us,.lit ut,lI (((XK d n t).n:Nat):Int),lB ((XK d n t).kn),lI ((XK d n t).v.1),lI ((XK d n t).v.2)])from by first | (rw[e5.1,e5.2.2.2.1,e5.2.2.2.2.1,e5.2.2.2.2.2.1,e5.2.2.2.2.2.2];done) | (rw[e5.1,e5.2.2.2.1,e5.2.2.2.2.1,e5.2.2.2.2.2.1,e5.2.2.2.2.2.2];rfl) | (rw[e5.2.1]) | (rw[e5.2.2.1]))) (tw (ob1 (congrArg (fun z'=>OB.row us 22 1 ((z').map Zn)) (show([]:List (List BA))=((XK d n t).sk)from by first | (rw[e5.1,e5.2.2.2.1,e5.2.2.2.2.1,e5.2.2.2.2.2.1,e5.2.2.2.2.2.2];done) | (rw[e5.1,e5.2.2.2.1,e5.2.2.2.2.1,e5.2.2.2.2.2.1,e5.2.2.2.2.2.2];rfl) | (rw[e5.2.1]) | (rw[e5.2.2.1])))) ?_)
   exact tw (ob2 (congrArg (fun z'=>OB.row ut 22 1 ((z').map Zn)) (show([]:List (List BA))=((XK d n t).tg)from by first | (rw[e5.1,e5.2.2.2.1,e5.2.2.2.2.1,e5.2.2.2.2.2.1,e5.2.2.2.2.2.2];done) | (rw[e5.1,e5.2.2.2.1,e5.2.2.2.2.1,e5.2.2.2.2.2.1,e5.2.2.2.2.2.2];rfl) | (rw[e5.2.1]) | (rw[e5.2.2.1])))) (ZA (fun a w h=>Yg  (m:=0) (b2,(.map (some m3)),us,ut) rfl h rfl rfl))
theorem Zoi {J:WP} (hJ:Stab J) (d:Db) (n:Nat) (t:List BA) (hn:n<d.frames.length) (hfl:d.frames.length≤400) (hfr:∀ g∈d.frames,okF g∧okT g) (hM:Zg8 (Zam (d.frames.take n)) d.frames.length) (hf:Ziy (ge d.frames n)) (hw:∀ g∈d.frames,g.wide.length*32≤140737488351232) (hl:t.length≤100000) (hs:ZaV t≤1000000000):Fn Tryz.prog J 34 [.agg (dbC d),.int (n:Nat),.rd (Zf t)] (.agg (vdC (ZlH d.frames d.vars (ge d.frames n) (Zam (d.frames.take n)) t))):=by
 refine fE Tryz.func34 fun S w0 hS hJ0=>?_
 refine tw ZR (ln 2 fun hl1=>?_)
 obtain⟨h0,h00⟩:=ZfZ (t:=t) hM hf
 refine tsq (sy (.ptr (dbC d)) (fun h=>ZdD rfl (h.get 0 rfl) (Zq hS _ h.keep h.x _ nlr) (jo hJ h.x)) ?_)
 refine ZT Qe hJ rfl rfl rfl (lb rfl) fun b1=>?_
 refine seK [0,1,3,4] U4 rfl (nx (Zkk (tsq ?_)))
 refine snK 3 tb rfl (Xv (O:=[]) (R:=[OB.var b1 [lI 0,lI 0]]) (ZhY hJ d n t sfz sfz (by exact fun h hh=>(hf h hh).2) (by exact(hfr _ (Zu hn)).1.1) (by exact hl) (by exact hs)) Zp2 rfl rfl rfl (lb rfl) hS hJ0 Zv (fun a w h=>(Za (h.get 2 rfl) (Za (h.get 1 rfl) (Za (h.get 0 rfl) Zg)))) fun z2=>?_)
 refine snK 1 tb rfl (seK [0,5] U2 rfl ?_)
 refine nx (Ze (Zkl (nx (Ze (Zc (lpo (ι:=Ms×Value×Value) (fun(m9,_,_)=>(ZmT (Yi d n t) m9)∧((ZaM d.frames d.vars (ge d.frames n) (Yi d n t) ((Yi d n t).length+1) (XK d n t)).v=(ZaM d.frames d.vars (ge d.frames n) (Yi d n t) ((Yi d n t).length+1-m9.n) m9).v)) (fun(m9,vs,vt)=>[OB.var z2.1 (mkC d (ge d.frames n) [.lit z2.2.1,Qv (Yi d n t),.lit vs,.lit vt,lI (m9.n:Int),lB m9.kn,lI m9.v.1,lI m9.v.2]),OB.row vs 22 1 (m9.sk.map Zn),OB.row vt 22 1 (m9.tg.map Zn),OB.var b1 [lI 0,lI 0]]) (fun(_,_,_)=>[]) (fun(m9,_,_)=>(Yi d n t).length-m9.n) [0,1] U2 ((XK d n t),z2.2.2.1,z2.2.2.2) ⟨h00,by rw[show(XK d n t).n=0 from ZgJ];rfl⟩ ?_))))))
 rintro⟨m9,vs,vt⟩ ⟨f1_1,f1_2⟩
 refine Zc (tsq (snK 1 tb rfl (Xv (O:=[OB.var z2.1 (mkC d (ge d.frames n) [.lit z2.2.1,Qv (Yi d n t),.lit vs,.lit vt,lI (m9.n:Int),lB m9.kn,lI m9.v.1,lI m9.v.2]),OB.row vs 22 1 (m9.sk.map Zn),OB.row vt 22 1 (m9.tg.map Zn)]) (R:=[OB.var b1 [lI 0,lI 0]]) (Zt0 hJ z2.1 d (ge d.frames n) z2.2.1 (Yi d n t) vs vt m9.n m9.kn m9.v.1 m9.v.2 m9.sk m9.tg (by exact inv_i h0 f1_1) (by exact f1_1.sk) (by exact(Zjy h0 f1_1).1) (by exact(Zjy h0 f1_1).2.1) (by exact(Zjy h0 f1_1).2.2) (by exact fun g hg=>(hfr g hg).1) (by exact hw _ (Zu hn))) Zp1 rfl rfl rfl (lb rfl) hS hJ0 Zv (fun a w h=>(Za (h.get 0 rfl) Zg)) fun z3=>?_)))
 refine snK 1 tb rfl (seK [0,3,4] U3 rfl ?_)
 refine nx (cj 0 (fun hb1=>?_) fun hb1=>?_)
 ·
  try simp at hb1
  have e5:=f1_2.trans (ZqZ (fs:=d.frames) (vars:=d.vars) (f:=ge d.frames n) f1_1 (by rw[←Zkn];exact hb1))
  refine Zs (nx (tsq (snK 1 tb rfl (sy (.at z2.1 0) (fun h=>Zy rfl (h.get 0 rfl) h.x) ?_))))
  refine sy (.at z2.1 17) (fun h=>Zr ZcE rfl (h.get 0 rfl) h.x) ?_
  refine sy (.agg [lI ((ZI d.frames d.vars (ge d.frames n) (Yi d n t) ⟨m9.sk,m9.tg,m9.n,m9.kn,(m9.v.1,m9.v.2),false⟩).v.1),lI ((ZI d.frames d.vars (ge d.frames n) (Yi d n t) ⟨m9.sk,m9.tg,m9.n,m9.kn,(m9.v.1,m9.v.2),false⟩).v.2)]) (fun h=>Yz (ds:=[lI ((ZI d.frames d.vars (ge d.frames n) (Yi d n t) ⟨m9.sk,m9.tg,m9.n,m9.kn,(m9.v.1,m9.v.2),false⟩).v.1),lI ((ZI d.frames d.vars (ge d.frames n) (Yi d n t) ⟨m9.sk,m9.tg,m9.n,m9.kn,(m9.v.1,m9.v.2),false⟩).v.2)]) Xu rfl (Zh h.x (mo 0 rfl)) (h.get 0 rfl) rfl rfl h.x) ?_
  refine kw pm3 (ZB (b:=b1) (off:=0) (es:=U2) (news:=U2) hJ hJ0 YO rfl rfl rfl (lb rfl) rfl (fun a w h=>⟨(h.get 6 rfl),(h.get 0 rfl)⟩) ?_)
  exact seK [6] [_] rfl (nx (ZA (fun a w h=>Xx (m:=0) rfl Xu h rfl rfl (show(_:List CD)=[lI ((ZlH d.frames d.vars (ge d.frames n) (Zam (d.frames.take n)) t).1),lI ((ZlH d.frames d.vars (ge d.frames n) (Zam (d.frames.take n)) t).2)]from by(rw[verV,e5];rfl)<;>rfl))))
 ·
  try simp at hb1
  have e6:=ZqY (fs:=d.frames) (vars:=d.vars) (f:=ge d.frames n) f1_1 (by rw[←Zkn];exact hb1)
  exact Zb (YE ((ZI d.frames d.vars (ge d.frames n) (Yi d n t) m9),z3.1,z3.2) [1,2] ⟨Zee (fun g hg=>(hfr g hg).2) h0 f1_1,f1_2.trans e6.1⟩ (hm:=(show(Yi d n t).length-(ZI d.frames d.vars (ge d.frames n) (Yi d n t) m9).n< (Yi d n t).length-m9.n from by rw[e6.2.1];omega)))
theorem Qx:Zcy Tryz.prog 32 [.int .i64 0,.int .i64 0]:=⟨fun i=>(#[(0,1),(1,1)]:Array (Nat×Nat))[i]?,fun j hj=>by rcases j with _ | _ | j<;>first | rfl | (simp at hj;omega),fun parts=>by kernel_rfl⟩
theorem Zoj {J:WP} (hJ:Stab J) (d:Db) (n:Nat) (hn:n<d.frames.length) (hck:Zaz d=0) (hw:∀ f∈d.frames,f.wide.length*32≤140737488351232) (hpl:∀ g∈d.frames,g.proof.length≤100000∧ZaV g.proof≤1000000000):Fn Tryz.prog J 37 [.agg (dbC d),.int (n:Nat)] (.agg (vdC (ZqQ d n))):=by
 refine fE Tryz.func37 fun S w0 hS hJ0=>?_
 refine tw ZR (tsq ?_)
 refine sy (.ptr (dbC d)) (fun h=>ZdD rfl (h.get 0 rfl) (Zq hS _ h.keep h.x _ nlr) (jo hJ h.x)) ?_
 refine ZT Qe hJ rfl rfl rfl (lb rfl) fun b1=>?_
 refine seK [0,1,3] U3 rfl (nx (Ze (ZG tb hJ [0,1,2,1001,1006] (V3 [.ptr (frC (ge d.frames n)),_,_,_]) [3] U5 rfl ⟨iIx ZV,trivial⟩ ?_)))
 refine ln 3 fun hl1=>?_
 refine cj 4 (fun hb1=>?_) fun hb1=>?_
 ·
  try simp at hb1
  refine tsq (sy (.agg (vdC (⟨0,0⟩:Int×Int))) (fun h=>Yh (ps:=[]) (us:=[.int .i64 0,.int .i64 0]) Qx rfl yz ZcJ rfl (Ys (.lit _ True.intro) (Ys (.lit _ True.intro) ZJ)) h.x) ?_)
  refine ZB (b:=b1) (off:=0) (es:=U2) (news:=U2) hJ hJ0 YO rfl rfl rfl (lb rfl) rfl (fun a w h=>⟨(h.get 1 rfl),(h.get 0 rfl)⟩) ?_
  exact seK [1] [_] rfl (nx (ZA (fun a w h=>Xx (m:=0) rfl Xu h rfl rfl (show(_:List CD)=[lI ((ZqQ d n).1),lI ((ZqQ d n).2)]from by(simp[ZqQ,hb1])<;>rfl))))
 ·
  try simp at hb1
  refine Zb (nx (Ze (fun a w h=>YF (γ:=Unit) (fun ix'=>([.agg (dbC d),.int (n:Nat),.ptr [Zb9 d.frames],.rd (Zb9 d.frames),.int (n:Nat),.ptr (frC (ge d.frames n)),.ptr [Zf ((ge d.frames n).proof)],.rd (Zf ((ge d.frames n).proof)),.agg (vdC (ZlH d.frames d.vars (ge d.frames n) (Zam (d.frames.take n)) ((ge d.frames n).proof))),.any]:List AV).getD ix' .any) (fun _=>true) [(4,fun _=>.at b1 0)] (fun j' _=>match j' with | 0=>[OB.var b1 [lI 0,lI 0]] | _=>[OB.var b1 (vdC (ZlH d.frames d.vars (ge d.frames n) (Zam (d.frames.take n)) ((ge d.frames n).proof)))]) (fun _ _=>undef) [9] 0 () (fun _=>rfl) h hJ Yr rfl rfl rfl rfl rfl rfl hsb ⟨?_,?_,?_,?_,?_,?_,?_,?_,?_,?_,trivial⟩ ⟨?e3_1_0,trivial⟩ ⟨.old 0 4 _,trivial⟩ ?n3_1)))
  exact oX rfl fun hx hl=>ZaN Zdr rfl (hl.env 1 2 _ rfl rfl) nlr hx
  exact oX rfl fun hx hl=>Z2 rfl (hl.env 2 1 _ rfl rfl) hx
  exact oX rfl fun hx hl=>ZN Qi rfl (hl.env 1 2 _ rfl rfl) hx
  exact oX rfl fun hx hl=>ZH ZeX rfl (hl.D 2 15 rfl rfl) hx
  exact oX rfl fun hx hl=>Z2 rfl (hl.env 2 1 _ rfl rfl) hx
  exact oX rfl fun hx hl=>ZQ (i:=(n:Int)) ZV rfl (hl.D 3 16 rfl rfl) (hl.D 4 17 rfl rfl) nnn (Z0 (xs:=d.frames) (k:=n) sfz) rfl hx
  exact oX rfl fun hx hl=>ZN ZdJ rfl (hl.D 5 18 rfl rfl) hx
  exact oX rfl fun hx hl=>ZH Xg rfl (hl.D 6 19 rfl rfl) hx
  exact oY rfl fun hk hx hl=>ZaY (Zoi hJ d n ((ge d.frames n).proof) sfz (by exact ZpG hck) (by exact fun g hg=>⟨(XJ hck g hg).1,(XJ hck g hg).2.1⟩) (by exact Zae (Zal _ oz) oz) (by exact(XJ hck _ (Zu oz)).2.2) (by exact hw) (by exact(hpl _ (Zu hn)).1) (by exact(hpl _ (Zu hn)).2)) ZwM rfl (Zq hS _ hk hx) (hx.1) (Za (hl.D 0 13 rfl rfl) (Za (hl.D 1 14 rfl rfl) (Za (hl.D 7 20 rfl rfl) Zg))) (jo hJ hx)
  exact Zl rfl
  case e3_1_0=>exact⟨_,rfl,rfl,rfl,rfl,fun g _ w hk hx hl _=>(by obtain⟨us2,hv2,hr3⟩:=Q3 (hl.D 8 21 rfl rfl);exact Zx (Xl (off:=0) (news:=U2) (es:=U2) (us:=us2) hJ hJ0 YO rfl hk hx (hl.env 0 4 _ rfl rfl) (by rw[hv2];rfl) hr3 (lb rfl) rfl) fun v w' hp=>⟨g,rfl,fun _ _=>rfl,fun e=>(by cases e),hp⟩)⟩
  clear a w h
  intro _
  dsimp only[List.map]
  exact nx (ZA (fun a w h=>Xx (m:=0) rfl Xu h rfl rfl (show(_:List CD)=[lI ((ZqQ d n).1),lI ((ZqQ d n).2)]from by(simp[ZqQ,hb1])<;>rfl)))
theorem Zos {J:WP} (hJ:Stab J) (d:Db) (z:Int) (hw:∀ f∈d.frames,f.wide.length*32≤140737488351232) (hG:Q2 J) (hpl:∀ g∈d.frames,g.proof.length≤100000∧ZaV g.proof≤1000000000):Fn Tryz.prog J 12 [.agg (dbC d),.int z] (.tup [.agg (vdC ((ZfH d z).1)),.int ((ZfH d z).2)]):=by
 refine fE Tryz.func12 fun S w0 hS hJ0=>?_
 refine tw ZR (tsq ?_)
 refine sy (.ptr (dbC d)) (fun h=>ZdD rfl (h.get 0 rfl) (Zq hS _ h.keep h.x _ nlr) (jo hJ h.x)) ?_
 refine ZT Qe hJ rfl rfl rfl (lb rfl) fun b1=>?_
 refine snK 1 tb rfl (seK [1,2,4] U3 rfl ?_)
 refine nx (Ze (ZG tb hJ [0,1,2,1003] [_,_,.int (YX d z),_] [2] U4 rfl ⟨iFo hS hJ (ZeU hJ d z (by exact hw) (by exact hG)) ZjU,trivial⟩ ?_))
 refine qso tb hJ [0,1,2,3,1001] U2 U5 ?_
 refine cj 4 (fun hb1=>?_) fun hb1=>?_
 ·
  try simp at hb1
  refine tsq (sy (.agg (vdC (⟨0,0⟩:Int×Int))) (fun h=>Yh (ps:=[]) (us:=[.int .i64 0,.int .i64 0]) Qx rfl yz ZcJ rfl (Ys (.lit _ True.intro) (Ys (.lit _ True.intro) ZJ)) h.x) ?_)
  refine snK 1 tb rfl (ZB (b:=b1) (off:=0) (es:=U2) (news:=U2) hJ hJ0 YO rfl rfl rfl (lb rfl) rfl (fun a w h=>⟨(h.get 2 rfl),(h.get 1 rfl)⟩) ?_)
  refine snK 1 tb rfl (seK [0,3] U2 rfl ?_)
  exact nx (ZA (fun a w h=>Zan (m:=1) (q:=0) rfl Xu h rfl rfl (show(_:List CD)=[lI (((ZfH d z).1).1),lI (((ZfH d z).1).2)]from by(simp[ZfH,hb1])<;>rfl) rfl (eI (by simp[ZfH,hb1]))))
 ·
  try simp at hb1
  have ha:YX d z=0:=by simpa using hb1
  obtain⟨hck,hz0,hz1⟩:=Zdq ha
  refine tw (sa 2 rfl (show(.int z:AV)= .int (z.toNat:Nat)from congrArg AV.int oz)) (Zb (nx (tsq ?_)))
  refine snK 2 tb rfl (sy (.agg (vdC (ZqQ d z.toNat))) (fun h=>ZaY (Zoj hJ d z.toNat sfz (by exact hck) (by exact hw) (by exact hpl)) ZwJ rfl (Zq hS _ h.keep h.x) (h.x.1) (Za (h.get 1 rfl) (Za (h.get 0 rfl) Zg)) (jo hJ h.x)) ?_)
  refine ZB (b:=b1) (off:=0) (es:=U2) (news:=U2) hJ hJ0 YO rfl rfl rfl (lb rfl) rfl (fun a w h=>⟨(h.get 3 rfl),(h.get 0 rfl)⟩) ?_
  refine snK 1 tb rfl (seK [0,4] U2 rfl ?_)
  exact nx (ZA (fun a w h=>Zan (m:=1) (q:=0) rfl Xu h rfl rfl (show(_:List CD)=[lI (((ZfH d z).1).1),lI (((ZfH d z).1).2)]from by(simp[ZfH,hb1])<;>rfl) rfl (eI (by simp[ZfH,hb1]))))
end Go.Proofs.YtneapgbkkkjagaaGreatDoor
set_option maxHeartbeats 8000000
set_option maxRecDepth 100000
namespace Go.Proofs.YtneapgbkkkjagaaGreatDoor
open Go.Proofs.Tryz (prog)
open Go.RowKit
theorem ZcP:Zgu prog 47 [.sl [],lI 0,lB false,lI 0,lI 0]:=⟨(.agg #[.slice none 0 0,.int .i64 0,.bool false,.int .i64 0,.int .i64 0]),fun w=>by kernel_rfl,fun S w=>(show RdL S w [.sl [],lI 0,lB false,lI 0,lI 0] [.slice none 0 0,.int .i64 0,.bool false,.int .i64 0,.int .i64 0]from⟨.nil _ _ nzl,.lit _ True.intro,.lit _ True.intro,.lit _ True.intro,.lit _ True.intro,trivial⟩)⟩
theorem ZwF:Zk prog 44:=Zp Tryz.func44 rfl rfl
theorem Zgr:Zj8 prog 47:=⟨by kernel_rfl,fun p q=>by kernel_rfl⟩
theorem Zag:XR prog 47 5:=fun w=>by kernel_rfl
theorem QA:X0 prog 47 5:=⟨fun w=>by kernel_rfl,fun w=>by kernel_rfl⟩
theorem Xq:ZX prog 47 1 1:=fun b off w=>by kernel_rfl
theorem ZlJ:prog.underlying 76=some (.slice 82):=by kernel_rfl
theorem ZtE:X0 prog 82 3:=⟨fun w=>by kernel_rfl,fun w=>by kernel_rfl⟩
theorem Za4:ZX prog 47 0 0:=fun b off w=>by kernel_rfl
theorem ZwE:Zk prog 45:=Zp Tryz.func45 rfl rfl
theorem ZdM:ZX prog 47 2 2:=fun b off w=>by kernel_rfl
theorem Zce:ZX prog 47 3 3:=fun b off w=>by kernel_rfl
theorem c_Run {J:WP} (hJ:Stab J) (d:Db) (i:Nat) (t:List BA) (most:Nat) (hi:i<d.frames.length) (hck:Zaz d=0) (hn:t.length≤100000) (hs:ZaV t≤1000000000) (hap:∀ f∈d.frames,f.apart.length≤100000):Fn prog J 20 [.agg (dbC d),.int (i:Nat),.rd (Zf t),.int (most:Nat)] (.agg (rsC (Qm d i t most))):=by
 refine fE Tryz.func20 fun S w0 hS hJ0=>?_
 refine tw ZR (ln 2 fun hl1=>?_)
 refine tsq (sy (.ptr (dbC d)) (fun h=>ZdD rfl (h.get 0 rfl) (Zq hS _ h.keep h.x _ nlr) (jo hJ h.x)) ?_)
 refine ZT ZcP hJ rfl rfl rfl (lb rfl) fun b1=>?_
 refine seK [0,1,3,4,5] U5 rfl (nx (tsq ?_))
 refine snK 3 tb rfl (sy (.ptr (frC (ge d.frames i))) (fun h=>ZQ (i:=(i:Int)) ZV rfl (h.get 1 rfl) (h.get 0 rfl) nnn (Z0 (xs:=d.frames) (k:=i) sfz) rfl h.x) ?_)
 refine snK 1 tb rfl (XZ (cs:=frC (ge d.frames i)) Zec rfl rfl rfl (lb rfl) rfl rfl rfl dz (m:=0) rfl rfl (fun a w h=>Zq hS _ h.keep h.x _ nlr) (fun a w h w' hk'=>YA hJ _ _ hk' h.x) ?_)
 refine seK [0,4,6,7,8,9,10] U7 rfl (nx (ln 1 fun hl2=>?_))
 refine ZG tb hJ [0,2,3,4,6,1004,1006,1007] [_,_,.tup [.rd (ZhA ((Z6 (ge d.frames i) t).1)),.int ((Z6 (ge d.frames i) t).2)],_,_,_,_,_] [2] U8 rfl ⟨iFo hS hJ (ZwY hJ (ge d.frames i) t (by exact hn) (by exact hs) (by exact(XJ hck _ (Zu hi)).1.1)) ZwF,trivial⟩ ?_
 refine ln 5 fun hl3=>?_
 refine Ze (qso tb hJ (r5 [6,7,1001]) U2 U8 ?_)
 refine cj 7 (fun hb1=>?_) fun hb1=>?_
 ·
  try simp at hb1
  have eU:Qm d i t most=⟨[],0,true,((Z6 (ge d.frames i) t).2,0)⟩:=ZuS hck hi (by simpa using hb1)
  refine tsq (snK 1 tb rfl (sq (.agg (vdC (⟨(Z6 (ge d.frames i) t).2,0⟩:Int×Int))) rfl rfl (lb rfl) (fun a _ h=>Yh (ps:=[(0,a.eval (.tmp 30))]) (us:=[a.eval (.tmp 30),.int .i64 0]) Qx rfl yz (Zcx (lb rfl) (Rel.oneC (h.get 0 rfl)) ZcJ) rfl (Zi (h.get 0 rfl) (Ys (.lit _ True.intro) ZJ)) h.x) ?_))
  refine sy (.agg (rsC (⟨[],0,true,(⟨(Z6 (ge d.frames i) t).2,0⟩:Int×Int)⟩:Rs))) (fun h=>Zn3 Zgr rfl (h.get 0 rfl) h.x) ?_
  refine ZB (b:=b1) (off:=0) (es:=U5) (news:=U5) hJ hJ0 Zag rfl rfl rfl (lb rfl) rfl (fun a w h=>⟨(h.get 4 rfl),(h.get 0 rfl)⟩) ?_
  exact seK [4] [_] rfl (nx (ZA (fun a w h=>Xx (m:=0) rfl QA h rfl rfl (by rw[eU]<;>rfl))))
 ·
  try simp at hb1
  obtain⟨e1,e2,e3⟩:=run_ok (t:=t) hck hi (by simpa using hb1)
  have e20:=Zo2 (t:=t) hck hi
  refine Zb (nx (tsq (sy (.agg (rsC (⟨[],0,false,(0,0)⟩:Rs))) (fun h=>Zn4 Zgr rfl h.x) ?_)))
  refine ZT ZcP hJ rfl rfl rfl (lb rfl) fun b2=>?_
  refine ZB (b:=b2) (off:=0) (es:=U5) (news:=U5) hJ hJ0 Zag rfl rfl rfl (lb rfl) rfl (fun a w h=>⟨(h.get 0 rfl),(h.get 1 rfl)⟩) ?_
  refine seK [0,2,3,4,5,6,7] U7 rfl (nx (tsq ?_))
  refine XF ZF hJ rfl rfl rfl (lb rfl) fun v3=>?_
  refine snK 1 tb rfl (seK [0,2,3,4,5,6,7,8] U8 rfl ?_)
  refine nx (Ze (Zc (lpo (ι:=Nat×(List (List BA))×Value×(List (List BA))) (fun(n,sk,_,gv)=>(ZqF d i t n sk gv)∧(n≤most)) (fun(n,sk,ws,gv)=>[OB.row ws 22 1 (gv.map Zn),OB.var b2 [Ye sk,lI (n:Int),lB false,lI (0:Int),lI (0:Int)],OB.var b1 [Ye ([]:List (List BA)),lI 0,lB false,lI 0,lI 0]]) (fun(_,_,ws,_)=>[(13,.lit ws)]) (fun(n,_,_,_)=>(Yi d i t).length-n) [1,2,3,4,5,6,7,0] U7 (0,[],v3,([]:List (List BA))) ⟨e1,nzl⟩ ?_)))
  rintro⟨n,sk,ws,gv⟩ ⟨f1_1,f1_2⟩
  refine Ze (ZG tb hJ (r8 [1004]) [.at b2 1,.int (n:Nat),_,.int (((Z6 (ge d.frames i) t).1).length:Nat),_] [0,1,3] U9 rfl ⟨fun _ _ _ hx hl _=>Zr Xq rfl (hl.env 0 12 _ rfl rfl) hx,fun _ _ _ hx hl _=>Zw Zay rfl (Zh hx (mo 1 rfl)) (hl.D 0 35 rfl rfl) rfl hx,Z3 ZlJ,trivial⟩ ?_)
  refine cj 8 (fun hb2=>?_) fun hb2=>?_
  ·
   try simp at hb2
   have e4:=ZuT f1_1
   have e5:=e3 n oz
   have e8:=ZuL (d:=d) (i:=i) (r:=ge (Z6 (ge d.frames i) t).1 n) (gv:=gv) (sk:=sk)
   have e9:=f1_1.gl
   refine Zb (nx (Zc (Ze (ZG tb hJ (r8 [1003]) [.at b2 1,.int (n:Nat),_,_] [0,1] U9 rfl ⟨fun _ _ _ hx hl _=>Zr Xq rfl (hl.env 0 12 _ rfl rfl) hx,fun _ _ _ hx hl _=>Zw Zay rfl (Zh hx (mo 1 rfl)) (hl.D 0 40 rfl rfl) rfl hx,trivial⟩ ?_))))
   refine cj 8 (fun hb3=>?_) fun hb3=>?_
   ·
    try simp at hb3
    have eU:Qm d i t most=⟨sk,n,false,(0,0)⟩:=ZnH f1_1 oz f1_2 oz
    refine tsq (sy (.agg [Ye sk,lI (n:Int),lB false,lI (0:Int),lI (0:Int)]) (fun h=>Yz (ds:=[Ye sk,lI (n:Int),lB false,lI (0:Int),lI (0:Int)]) QA rfl (Zh h.x (mo 1 rfl)) (h.get 0 rfl) rfl rfl h.x) ?_)
    refine kw pm2 (ZB (b:=b1) (off:=0) (es:=U5) (news:=U5) hJ hJ0 Zag rfl rfl rfl (lb rfl) rfl (fun a w h=>⟨(h.get 3 rfl),(h.get 0 rfl)⟩) ?_)
    exact seK [3] [_] rfl (nx (ZA (fun a w h=>Xx (m:=0) rfl QA h rfl rfl (by rw[eU]<;>rfl))))
   ·
    try simp at hb3
    refine Zb (nx (ZG tb hJ (r8 [1009,1012,1013,1015,1016,1017]) (V3 [.at b2 1,.int (n:Nat),.ptr (riC (ge ((Z6 (ge d.frames i) t).1) n)),.agg (riC (ge ((Z6 (ge d.frames i) t).1) n)),_,.at b2 0,.rd (Ye sk),.tup [.rd (Zf ((Xh d i (ge ((Z6 (ge d.frames i) t).1) n) gv sk).1.1)),.rd (Ye ((Xh d i (ge ((Z6 (ge d.frames i) t).1) n) gv sk).1.2)),.int ((Xh d i (ge ((Z6 (ge d.frames i) t).1) n) gv sk).2)],_,_,_,_,_,_,_]) [3,4,5,6,8,9,10] [_,_,_,_,_,_,_,_,_,_,_,_,_,_] rfl ⟨fun _ _ _ hx hl _=>Zr Xq rfl (hl.env 0 12 _ rfl rfl) hx,fun _ _ _ hx hl _=>Zw Zay rfl (Zh hx (mo 1 rfl)) (hl.D 3 49 rfl rfl) rfl hx,iIx Xr,fun _ _ _ hx hl _=>ZaN ZtE rfl (hl.D 5 51 rfl rfl) nlr hx,fun _ _ _ hx hl _=>Zr Za4 rfl (hl.env 0 12 _ rfl rfl) hx,fun _ _ _ hx hl _=>Zw Zaj rfl (Zh hx (mo 1 rfl)) (hl.D 8 54 rfl rfl) rfl hx,fun _ _ hk hx hl _=>Y5 (ZwW hJ d i (ge ((Z6 (ge d.frames i) t).1) n) ws gv sk (by exact hi) (by exact hck) (by exact ZnK f1_1 oz e5) (by exact e4.1) (by exact hap)) ZwE rfl (Zq hS _ hk hx) (hx.1) (ZP (Zh hx (mo 0 rfl)) Zv) (Za (hl.D 0 46 rfl rfl) (Za (hl.D 1 47 rfl rfl) (Za (hl.D 6 52 rfl rfl) (Za (hl.D 7 53 rfl rfl) (Za (hl.D 9 55 rfl rfl) Zg))))) (jo hJ hx),trivial⟩ ?_))
    refine ln 8 fun hl4=>?_
    refine ln 9 fun hl5=>?_
    refine ln 10 fun hl6=>?_
    refine Ze (qso tb hJ (r8 [11,12,13,1001]) U2 [_,_,_,_,_,_,_,_,_,_,_,_] ?_)
    refine cj 11 (fun hb4=>?_) fun hb4=>?_
    ·
     try simp at hb4
     have eU:Qm d i t most=⟨sk,n,true,((Xh d i (ge (Z6 (ge d.frames i) t).1 n) gv sk).2,(n:Int))⟩:=ZnG f1_1 oz hck hi e5 (by simpa using hb4) oz
     refine tsq (sy (.at b2 2) (fun h=>Zr ZdM rfl (h.get 0 rfl) h.x) ?_)
     refine kw pm1 (Z5 (b:=b2) (off:=2) (es:=U5) hJ hJ0 ZaC rfl rfl rfl (lb rfl) rfl (fun a w h=>⟨(h.get 0 rfl),(Rel.of_lit (.bool true))⟩) ?_)
     refine seK [1,3,11] U3 rfl (nx (tsq ?_))
     refine snK 1 tb rfl (sy (.at b2 1) (fun h=>Zr Xq rfl (h.get 1 rfl) h.x) ?_)
     refine sy (.int (n:Nat)) (fun h=>Zw Zay rfl (Zh h.x (mo 0 rfl)) (h.get 0 rfl) rfl h.x) ?_
     refine sq (.agg (vdC (⟨(Xh d i (ge ((Z6 (ge d.frames i) t).1) n) gv sk).2,(n:Int)⟩:Int×Int))) rfl rfl (lb rfl) (fun a _ h=>Xe (us:=[a.eval (.tmp 63),a.eval (.tmp 65)]) Ql rfl yz (Zi (h.get 2 rfl) (Zi (h.get 0 rfl) ZJ)) rfl h.x) ?_
     refine sy (.at b2 3) (fun h=>Zr Zce rfl (h.get 4 rfl) h.x) ?_
     refine ZB (b:=b2) (off:=3) (es:=U5) (news:=U2) hJ hJ0 YO rfl rfl rfl (lb rfl) rfl (fun a w h=>⟨(h.get 0 rfl),(h.get 1 rfl)⟩) ?_
     refine seK [5,6] U2 rfl (nx (tsq ?_))
     refine sy (.agg [Ye sk,lI (n:Int),lB true,lI ((⟨(Xh d i (ge ((Z6 (ge d.frames i) t).1) n) gv sk).2,(n:Int)⟩:Int×Int).1),lI ((⟨(Xh d i (ge ((Z6 (ge d.frames i) t).1) n) gv sk).2,(n:Int)⟩:Int×Int).2)]) (fun h=>Yz (ds:=[Ye sk,lI (n:Int),lB true,lI ((⟨(Xh d i (ge ((Z6 (ge d.frames i) t).1) n) gv sk).2,(n:Int)⟩:Int×Int).1),lI ((⟨(Xh d i (ge ((Z6 (ge d.frames i) t).1) n) gv sk).2,(n:Int)⟩:Int×Int).2)]) QA rfl (Zh h.x (mo 0 rfl)) (h.get 0 rfl) rfl rfl h.x) ?_
     refine kw pm2 (ZB (b:=b1) (off:=0) (es:=U5) (news:=U5) hJ hJ0 Zag rfl rfl rfl (lb rfl) rfl (fun a w h=>⟨(h.get 2 rfl),(h.get 0 rfl)⟩) ?_)
     exact seK [2] [_] rfl (nx (ZA (fun a w h=>Xx (m:=0) rfl QA h rfl rfl (by rw[eU]<;>rfl))))
    ·
     try simp at hb4
     have e7:=ZnJ f1_1 oz hck hi e5 (by simpa using hb4)
     refine Zb (nx (Ze (ZE (XF ZF hJ rfl rfl rfl (lb rfl) fun v4=>?_))))
     refine snK 1 tb rfl (ZS (f:=Zn) (m:=1) (s:=69) ([]:List (List BA)) ((Xh d i (ge ((Z6 (ge d.frames i) t).1) n) gv sk).1.2) (fun _=>rfl) Qy hJ hJ0 rfl rfl rfl (lb rfl) rfl rfl (fun a w h=>(h.get 0 rfl)) sfz sfz fun v5=>?_)
     refine snK 1 tb rfl (sy (.rd (Ye ([((Xh d i (ge ((Z6 (ge d.frames i) t).1) n) gv sk).1.1)]))) (fun h=>YC ZF ZaL rfl (h.get 0 rfl) (Zq hS _ h.keep h.x _ nlr) (jo hJ h.x)) ?_)
     refine ZS (f:=Zn) (m:=2) (s:=71) (([]:List (List BA))++((Xh d i (ge ((Z6 (ge d.frames i) t).1) n) gv sk).1.2)) ([((Xh d i (ge ((Z6 (ge d.frames i) t).1) n) gv sk).1.1)]) (fun _=>rfl) Qy hJ hJ0 rfl rfl rfl (lb rfl) rfl rfl (fun a w h=>(h.get 0 rfl)) sfz sfz fun v6=>?_
     refine sy (.at b2 0) (fun h=>Zr Za4 rfl (h.get 6 rfl) h.x) ?_
     refine kw pm2 (kw pm1 ?_)
     refine kw (fun h=>ZO hS h (m:=1) (s:=74) rfl) (Z5 (b:=b2) (off:=0) (es:=U5) hJ hJ0 ZbD rfl rfl rfl (lb rfl) rfl (fun a w h=>⟨(h.get 1 rfl),(h.get 0 rfl)⟩) ?_)
     refine seK [0,2,7,8,9,10,11,12,13,14,15] [_,_,_,_,_,_,_,_,_,_,_] rfl (nx (ln 0 fun hl7=>?_))
     refine ln 1 fun hl8=>?_
     refine tsq (snK 2 tb rfl (sy (.rd (Ye ([((Xh d i (ge ((Z6 (ge d.frames i) t).1) n) gv sk).1.1)]))) (fun h=>YC ZF ZaL rfl (h.get 0 rfl) (Zq hS _ h.keep h.x _ nlr) (jo hJ h.x)) ?_))
     refine kw pm1 (ZS (f:=Zn) (m:=2) (s:=76) gv ([((Xh d i (ge ((Z6 (ge d.frames i) t).1) n) gv sk).1.1)]) (fun _=>rfl) Qy hJ hJ0 rfl rfl rfl (lb rfl) rfl rfl (fun a w h=>(h.get 0 rfl)) sfz sfz fun v7=>?_)
     refine snK 1 tb rfl (seK [0,7,8,9,10,11,12,13] U8 rfl ?_)
     refine nx (ZE (sq (.at b2 1) rfl rfl (lb rfl) (fun _ _ h=>Zr Xq rfl (h.get 1 rfl) h.x) ?_))
     refine sy (.int (n:Nat)) (fun h=>Zw Zay rfl (Zh h.x (mo 1 rfl)) (h.get 0 rfl) rfl h.x) ?_
     refine sy (.int (n+1:Nat)) (fun h=>ZeR (i:=(n:Int)) (j:=(1:Int)) rfl (h.get 0 rfl) (Rel.of_lit (.int .i64 1)) sfz sfz h.x) ?_
     refine sy (.at b2 1) (fun h=>Zr Xq rfl (h.get 4 rfl) h.x) ?_
     refine kw pm1 (Z5 (b:=b2) (off:=1) (es:=U5) hJ hJ0 ZbY rfl rfl rfl (lb rfl) rfl (fun a w h=>⟨(h.get 0 rfl),(h.get 1 rfl)⟩) ?_)
     refine seK [4,5,6,7,8,9,10,11] U8 rfl (kw pm2 ?_)
     refine kw pm1 (kw pm2 ?_)
     exact YE ((n+1),((Xh d i (ge (Z6 (ge d.frames i) t).1 n) gv sk).1.2++[(Xh d i (ge (Z6 (ge d.frames i) t).1 n) gv sk).1.1]),v7,gv++([((Xh d i (ge ((Z6 (ge d.frames i) t).1) n) gv sk).1.1)])) [1,2,3,4,5,6,7,0] ⟨e7,oz⟩
  ·
   try simp at hb2
   have e6:=Zq1 f1_1 (by have:=f1_1.le;omega) f1_2
   refine Zs (nx (tsq (sy (.at b2 2) (fun h=>Zr ZdM rfl (h.get 0 rfl) h.x) ?_)))
   refine kw pm1 (Z5 (b:=b2) (off:=2) (es:=U5) hJ hJ0 ZaC rfl rfl rfl (lb rfl) rfl (fun a w h=>⟨(h.get 0 rfl),(Rel.of_lit (.bool true))⟩) ?_)
   refine seK [1,2,3] U3 rfl (nx (Ze (ZG tb hJ [0,1,2,1001,1003] [.at b2 0,.rd (Ye sk),.int (sk.length:Nat),_] [0,1,2] U5 rfl ⟨fun _ _ _ hx hl _=>Zr Za4 rfl (hl.env 0 12 _ rfl rfl) hx,fun _ _ _ hx hl _=>Zw Zaj rfl (Zh hx (mo 0 rfl)) (hl.D 0 85 rfl rfl) rfl hx,Z3 Y9,trivial⟩ ?_)))
   refine ln 3 fun hl9=>?_
   refine cj 4 (fun hb5=>?_) fun hb5=>?_
   ·
    try simp at hb5
    have eU:Qm d i t most=⟨sk,n,true,(23,(n:Int))⟩:=by rw[e6,Zde,if_pos oz]
    refine ZE (sq (.at b2 1) rfl rfl (lb rfl) (fun _ _ h=>Zr Xq rfl (h.get 0 rfl) h.x) ?_)
    refine sy (.int (n:Nat)) (fun h=>Zw Zay rfl (Zh h.x (mo 0 rfl)) (h.get 0 rfl) rfl h.x) ?_
    refine sq (.agg (vdC (⟨(23:Int),(n:Int)⟩:Int×Int))) rfl rfl (lb rfl) (fun a _ h=>Xe (us:=[a.eval (.const (.int .i64 23)),a.eval (.tmp 90)]) Ql rfl yz (Zi (Rel.of_lit (.int .i64 23)) (Zi (h.get 0 rfl) ZJ)) rfl h.x) ?_
    refine sy (.at b2 3) (fun h=>Zr Zce rfl (h.get 3 rfl) h.x) ?_
    refine ZB (b:=b2) (off:=3) (es:=U5) (news:=U2) hJ hJ0 YO rfl rfl rfl (lb rfl) rfl (fun a w h=>⟨(h.get 0 rfl),(h.get 1 rfl)⟩) ?_
    refine seK [4,6] U2 rfl (nx (tsq ?_))
    refine sy (.agg [Ye sk,lI (n:Int),lB true,lI ((⟨(23:Int),(n:Int)⟩:Int×Int).1),lI ((⟨(23:Int),(n:Int)⟩:Int×Int).2)]) (fun h=>Yz (ds:=[Ye sk,lI (n:Int),lB true,lI ((⟨(23:Int),(n:Int)⟩:Int×Int).1),lI ((⟨(23:Int),(n:Int)⟩:Int×Int).2)]) QA rfl (Zh h.x (mo 0 rfl)) (h.get 0 rfl) rfl rfl h.x) ?_
    refine kw pm2 (ZB (b:=b1) (off:=0) (es:=U5) (news:=U5) hJ hJ0 Zag rfl rfl rfl (lb rfl) rfl (fun a w h=>⟨(h.get 2 rfl),(h.get 0 rfl)⟩) ?_)
    exact seK [2] [_] rfl (nx (ZA (fun a w h=>Xx (m:=0) rfl QA h rfl rfl (by rw[eU]<;>rfl))))
   ·
    try simp at hb5
    refine ZG tb hJ [0,2,1003,1005,1007] [.at b2 0,.rd (Ye sk),.ptr [Zf (ge sk 0)],_,_,_,.bool (decide ((ge sk 0)=((ge d.frames i).text))),_] [0,1,2,6] U5 rfl ⟨fun _ _ _ hx hl _=>Zr Za4 rfl (hl.env 0 12 _ rfl rfl) hx,fun _ _ _ hx hl _=>Zw Zaj rfl (Zh hx (mo 0 rfl)) (hl.D 0 93 rfl rfl) rfl hx,iIx (k:=0) ZF,iFo hS hJ (Zqg hJ (ge sk 0) ((ge d.frames i).text)) Zp0,trivial⟩ ?_
    refine ln 2 fun hl10=>?_
    refine ln 3 fun hl11=>?_
    refine cj 4 (fun hb6=>?_) fun hb6=>?_
    ·
     try simp at hb6
     have eU:Qm d i t most=⟨sk,n,true,(28,(n:Int))⟩:=by rw[e6,Zde,if_neg oz,if_pos (by simpa using hb6)]
     refine ZE (sq (.at b2 1) rfl rfl (lb rfl) (fun _ _ h=>Zr Xq rfl (h.get 0 rfl) h.x) ?_)
     refine sy (.int (n:Nat)) (fun h=>Zw Zay rfl (Zh h.x (mo 0 rfl)) (h.get 0 rfl) rfl h.x) ?_
     refine sq (.agg (vdC (⟨(28:Int),(n:Int)⟩:Int×Int))) rfl rfl (lb rfl) (fun a _ h=>Xe (us:=[a.eval (.const (.int .i64 28)),a.eval (.tmp 102)]) Ql rfl yz (Zi (Rel.of_lit (.int .i64 28)) (Zi (h.get 0 rfl) ZJ)) rfl h.x) ?_
     refine sy (.at b2 3) (fun h=>Zr Zce rfl (h.get 3 rfl) h.x) ?_
     refine ZB (b:=b2) (off:=3) (es:=U5) (news:=U2) hJ hJ0 YO rfl rfl rfl (lb rfl) rfl (fun a w h=>⟨(h.get 0 rfl),(h.get 1 rfl)⟩) ?_
     refine seK [4,5] U2 rfl (nx (tsq ?_))
     refine sy (.agg [Ye sk,lI (n:Int),lB true,lI ((⟨(28:Int),(n:Int)⟩:Int×Int).1),lI ((⟨(28:Int),(n:Int)⟩:Int×Int).2)]) (fun h=>Yz (ds:=[Ye sk,lI (n:Int),lB true,lI ((⟨(28:Int),(n:Int)⟩:Int×Int).1),lI ((⟨(28:Int),(n:Int)⟩:Int×Int).2)]) QA rfl (Zh h.x (mo 0 rfl)) (h.get 0 rfl) rfl rfl h.x) ?_
     refine kw pm2 (ZB (b:=b1) (off:=0) (es:=U5) (news:=U5) hJ hJ0 Zag rfl rfl rfl (lb rfl) rfl (fun a w h=>⟨(h.get 2 rfl),(h.get 0 rfl)⟩) ?_)
     exact seK [2] [_] rfl (nx (ZA (fun a w h=>Xx (m:=0) rfl QA h rfl rfl (by rw[eU]<;>rfl))))
    ·
     try simp at hb6
     have eU:Qm d i t most=⟨sk,n,true,(0,0)⟩:=by rw[e6,Zde,if_neg oz,if_neg (by simpa using hb6)]
     refine Zb (nx (tsq (sy (.agg [Ye sk,lI (n:Int),lB true,lI (0:Int),lI (0:Int)]) (fun h=>Yz (ds:=[Ye sk,lI (n:Int),lB true,lI (0:Int),lI (0:Int)]) QA rfl (Zh h.x (mo 0 rfl)) (h.get 0 rfl) rfl rfl h.x) ?_)))
     refine kw pm2 (ZB (b:=b1) (off:=0) (es:=U5) (news:=U5) hJ hJ0 Zag rfl rfl rfl (lb rfl) rfl (fun a w h=>⟨(h.get 2 rfl),(h.get 0 rfl)⟩) ?_)
     exact seK [2] [_] rfl (nx (ZA (fun a w h=>Xx (m:=0) rfl QA h rfl rfl (by rw[eU]<;>rfl))))
theorem Zp6:Zk prog 20:=Zp Tryz.func20 rfl rfl
theorem ZmF:Zqv prog 47:=fun _ _ _ _ _ _=>by kernel_rfl
theorem ZwH:Zk prog 39:=Zp Tryz.func39 rfl rfl
theorem ZwL:Zk prog 35:=Zp Tryz.func35 rfl rfl
theorem ZwK:Zk prog 36:=Zp Tryz.func36 rfl rfl
section
variable {J:WP} (hJ:Stab J)
include hJ
theorem Zqf (d:Db) (i:Nat) (t:List BA) (hi:i<d.frames.length) (hck:Zaz d=0) (hs:ZaV t≤1000000000) (hn:t.length≤100000) (hap:∀ f∈d.frames,f.apart.length≤100000):Fn prog J 36 [.agg (dbC d),.int (i:Nat),.rd (Zf t)] (.agg (vdC (ZlH d.frames d.vars (ge d.frames i) (Zam (d.frames.take i)) t))):=by
 refine fE Tryz.func36 fun S w0 hS hJ0=>?_
 refine tw ZR (ln 2 fun hl1=>?_)
 refine tsq (sy (.ptr (dbC d)) (fun h=>ZdD rfl (h.get 0 rfl) (Zq hS _ h.keep h.x _ nlr) (jo hJ h.x)) ?_)
 refine ZT Qe hJ rfl rfl rfl (lb rfl) fun b1=>?_
 refine seK [0,1,3,4] U4 rfl (nx (tsq ?_))
 refine snK 3 tb rfl (sy (.agg (rsC (Qm d i t 2001))) (fun h=>ZaY (c_Run hJ d i t 2001 (by exact hi) (by exact hck) (by exact hn) (by exact hs) (by exact hap)) Zp6 rfl (Zq hS _ h.keep h.x) (h.x.1) (Za (h.get 2 rfl) (Za (h.get 1 rfl) (Za (h.get 0 rfl) (Za (Rel.of_lit (.int .i64 2001)) Zg)))) (jo hJ h.x)) ?_)
 refine sy (.agg (vdC ((Qm d i t 2001).v))) (fun h=>Zrj ZmF rfl (h.get 0 rfl) h.x) ?_
 refine ZB (b:=b1) (off:=0) (es:=U2) (news:=U2) hJ hJ0 YO rfl rfl rfl (lb rfl) rfl (fun a w h=>⟨(h.get 5 rfl),(h.get 0 rfl)⟩) ?_
 exact seK [5] [_] rfl (nx (ZA (fun a w h=>Xx (m:=0) rfl Xu h rfl rfl (show(_:List CD)=[lI ((ZlH d.frames d.vars (ge d.frames i) (Zam (d.frames.take i)) t).1),lI ((ZlH d.frames d.vars (ge d.frames i) (Zam (d.frames.take i)) t).2)]from by(rw[←Zq0 (most:=2001) hck hi (by have:=Zo2 (t:=t) hck hi;omega)])<;>rfl))))
theorem ZwV (d:Db) (z:Int) (hw:∀ i,i<d.frames.length→(ge d.frames i).wide.length*32≤140737488351232):Fn prog J 35 [.agg (dbC d),.int z] (.int (YX d z)):=by
 refine fE Tryz.func35 fun S w0 hS hJ0=>?_
 clear hJ0
 refine hqs tb hJ [1,1000] [.ptr (dbC d),_] [0] U2 rfl ⟨iBs hS hJ,trivial⟩ ?_
 refine Ze (hqs tb hJ [0,1,1002] [_,.int (Zaz d),_] [1] U3 rfl ⟨iFn hS hJ (Zw0 hJ d (by exact hw)) ZwH,trivial⟩ ?_)
 refine qs tb hJ [0,1,2,1001] U2 U4 ?_
 refine cj 3 (fun hb1=>?_) fun hb1=>?_
 ·
  try simp at hb1
  have e3:YX d z=Zaz d:=by rw[YX,if_pos (by simpa using hb1)]
  refine qs tb hJ [1001] U2 [_] ?_
  exact tRn 0 (hE:=eI (by rw[e3]))
 ·
  try simp at hb1
  refine Zb (nx (Ze (hqs tb hJ [1008] (V6 [.int (d.frames.length:Nat),_,_]) [6] [_] rfl ⟨Z3 XS,trivial⟩ ?_)))
  refine cj 0 (fun hb2=>?_) fun hb2=>?_
  ·
   have e3:YX d z=5:=by rw[YX,if_neg (by simpa using hb1),if_pos (by simpa using hb2)]
   refine qs tb hJ [1000] [_] [_] ?_
   exact tRn 0 (hE:=eI (by rw[e3]))
  ·
   have e3:YX d z=0:=by rw[YX,if_neg (by simpa using hb1),if_neg (by simpa using hb2)]
   refine Zb (nx (qs tb hJ [1000] [_] [_] ?_))
   exact tRn 0 (hE:=eI (by rw[e3]))
theorem Zqh (d:Db) (z:Int) (t:List BA) (hw:∀ i,i<d.frames.length→(ge d.frames i).wide.length*32≤140737488351232) (hs:ZaV t≤1000000000) (hn:t.length≤100000) (hap:∀ f∈d.frames,f.apart.length≤100000):Fn prog J 11 [.agg (dbC d),.int z,.rd (Zf t)] (.tup [.agg (vdC ((ZgR d z t).1)),.int ((ZgR d z t).2)]):=by
 refine fE Tryz.func11 fun S w0 hS hJ0=>?_
 refine tw ZR (ln 2 fun hl1=>?_)
 refine tsq (sy (.ptr (dbC d)) (fun h=>ZdD rfl (h.get 0 rfl) (Zq hS _ h.keep h.x _ nlr) (jo hJ h.x)) ?_)
 refine ZT Qe hJ rfl rfl rfl (lb rfl) fun b1=>?_
 refine snK 1 tb rfl (seK [1,2,4,5] U4 rfl ?_)
 refine nx (Ze (ZG tb hJ [0,1,2,3,1003] [_,_,.int (YX d z),_] [2] U5 rfl ⟨iFo hS hJ (ZwV hJ d z (by exact hw)) ZwL,trivial⟩ ?_))
 refine qso tb hJ (r5 [1001]) U2 U6 ?_
 refine cj 5 (fun hb1=>?_) fun hb1=>?_
 ·
  try simp at hb1
  refine tsq (sy (.agg (vdC (⟨0,0⟩:Int×Int))) (fun h=>Yh (ps:=[]) (us:=[.int .i64 0,.int .i64 0]) Qx rfl yz ZcJ rfl (Ys (.lit _ True.intro) (Ys (.lit _ True.intro) ZJ)) h.x) ?_)
  refine snK 1 tb rfl (ZB (b:=b1) (off:=0) (es:=U2) (news:=U2) hJ hJ0 YO rfl rfl rfl (lb rfl) rfl (fun a w h=>⟨(h.get 2 rfl),(h.get 1 rfl)⟩) ?_)
  refine snK 1 tb rfl (seK [0,3] U2 rfl ?_)
  exact nx (ZA (fun a w h=>Zan (m:=1) (q:=0) rfl Xu h rfl rfl (show(_:List CD)=[lI (((ZgR d z t).1).1),lI (((ZgR d z t).1).2)]from by(simp[ZgR,hb1])<;>rfl) rfl (eI (by simp[ZgR,hb1]))))
 ·
  try simp at hb1
  have ha:YX d z=0:=by simpa using hb1
  obtain⟨hcd,hz0,hz1⟩:=Zdq ha
  have hi:z.toNat<d.frames.length:=by omega
  refine tw (sa 2 rfl (show(.int z:AV)= .int (z.toNat:Nat)from congrArg AV.int oz)) (Zb (nx (tsq ?_)))
  refine snK 3 tb rfl (sy (.agg (vdC (ZlH d.frames d.vars (ge d.frames z.toNat) (Zam (d.frames.take z.toNat)) t))) (fun h=>ZaY (Zqf hJ d z.toNat t (by exact hi) (by exact hcd) (by exact hs) (by exact hn) (by exact hap)) ZwK rfl (Zq hS _ h.keep h.x) (h.x.1) (Za (h.get 2 rfl) (Za (h.get 1 rfl) (Za (h.get 0 rfl) Zg))) (jo hJ h.x)) ?_)
  refine ZB (b:=b1) (off:=0) (es:=U2) (news:=U2) hJ hJ0 YO rfl rfl rfl (lb rfl) rfl (fun a w h=>⟨(h.get 4 rfl),(h.get 0 rfl)⟩) ?_
  refine snK 1 tb rfl (seK [0,5] U2 rfl ?_)
  exact nx (ZA (fun a w h=>Zan (m:=1) (q:=0) rfl Xu h rfl rfl (show(_:List CD)=[lI (((ZgR d z t).1).1),lI (((ZgR d z t).1).2)]from by(simp[ZgR,hb1])<;>rfl) rfl (eI (by simp[ZgR,hb1]))))
end
end Go.Proofs.YtneapgbkkkjagaaGreatDoor
namespace Go.Proofs.YtneapgbkkkjagaaGreatDoor
structure Exm where
 proof:List BA
 v:Int×Int
instance instInhExm:Inhabited Exm:=⟨⟨[],(0,0)⟩⟩
def exC (e:Exm):List CD:=[Zf e.proof,.lit (.int .i64 e.v.1),.lit (.int .i64 e.v.2)]
def exsC (l:List Exm):CD:=.sl (l.map exC)
def Zdt:BA:=⟨#[119,112,104]⟩
def Zgy:BA:=⟨#[119,112,115]⟩
def Zbv:BA:=⟨#[97,120,45,49]⟩
def Zxa:BA:=⟨#[119,102,102]⟩
def phT:BA:=⟨#[112,104]⟩
def psT:BA:=⟨#[112,115]⟩
def opT:BA:=⟨#[40]⟩
def clT:BA:=⟨#[41]⟩
def arT:BA:=⟨#[45,62]⟩
def tuT:BA:=⟨#[124,45]⟩
def exsD:List Exm:=[⟨[Zdt,Zgy,Zbv],(0,0)⟩,⟨[Zdt,Zbv],(23,1)⟩,⟨[opT,Zbv,clT,⟨#[65,66,67]⟩],(0,0)⟩,⟨[opT,clT,⟨#[65,66,68]⟩],(21,0)⟩,⟨[Zgy,Zdt,Zbv],(28,3)⟩]
def Zjb:Hy:=⟨Zdt,true,[Zxa,phT]⟩
def Zja:Hy:=⟨Zgy,true,[Zxa,psT]⟩
def smTx:List BA:=[tuT,opT,phT,arT,opT,psT,arT,phT,clT,clT]
def Zxc:Fr:=⟨Zbv,false,[Zjb,Zja],[],smTx,[],[],[]⟩
def Zxb (p:List BA):Fr:=⟨⟨#[116,104]⟩,true,[Zjb,Zja],[],smTx,[],[],p⟩
def Y7 (p:List BA):Db:=⟨[Zxa,tuT,opT,clT,arT],[phT,psT],[Zxc,Zxb p]⟩
theorem sam0:ZfH (Y7 (ge exsD 0).proof) 1=((ge exsD 0).v,0):=by kernel_rfl
theorem sam1:ZfH (Y7 (ge exsD 1).proof) 1=((ge exsD 1).v,0):=by kernel_rfl
theorem sam2:ZfH (Y7 (ge exsD 2).proof) 1=((ge exsD 2).v,0):=by kernel_rfl
theorem sam3:ZfH (Y7 (ge exsD 3).proof) 1=((ge exsD 3).v,0):=by kernel_rfl
theorem sam4:ZfH (Y7 (ge exsD 4).proof) 1=((ge exsD 4).v,0):=by kernel_rfl
theorem ZuR {k:Nat} (h:k<exsD.length):ZfH (Y7 (ge exsD k).proof) 1=((ge exsD k).v,0):=by
 have:k=0∨k=1∨k=2∨k=3∨k=4:=by
  have:exsD.length=5:=rfl
  omega
 rcases this with rfl | rfl | rfl | rfl | rfl
 · exact sam0
 · exact sam1
 · exact sam2
 · exact sam3
 · exact sam4

def Ziv (h:Hy):Bool:=decide ((60:Int)< ((h.text.length:Nat):Int))
def ZqV (s:BA):Bool:=decide ((400:Int)< ((s.size:Nat):Int))
def Zmu (m:Int) (f:Fr):Bool:=decide (m< ((f.proof.length:Nat):Int))||decide ((60:Int)< ((f.text.length:Nat):Int))||decide ((60:Int)< ((f.hyps.length:Nat):Int))||decide ((60:Int)< ((f.dummies.length:Nat):Int))||decide ((200:Int)< ((f.apart.length:Nat):Int))||decide ((300:Int)< ((f.wide.length:Nat):Int))||f.hyps.any Ziv||f.dummies.any Ziv||f.proof.any ZqV
def ZcY (d:Db) (n m:Int):Bool:=decide (((d.frames.length:Nat):Int)≤n)&&decide (((d.consts.length:Nat):Int)≤(200:Int))&&decide (((d.vars.length:Nat):Int)≤(60:Int))&& !(d.frames.any (Zmu m))
theorem sum_le {l:List BA} {m:Nat} (h:∀ s∈l,s.size≤m):ZaV l≤l.length*m:=by
 induction l with
 | nil=>simp[ZaV]
 | cons s l ih=>
  have h1:=h s yz
  have h2:=ih fun x hx=>h x (by simp[hx])
  simp only[ZaV,List.map_cons,List.sum_cons,List.length_cons,Nat.succ_mul]at h2 ⊢
  omega
theorem sam_hw (p:List BA):∀ f∈(Y7 p).frames,f.wide.length*32≤140737488351232:=fun f hf=>by
 have:f=Zxc∨f=Zxb p:=by simpa [Y7]using hf
 rcases this with rfl | rfl<;>exact Nat.zero_le _
theorem sam_pl {k:Nat} (hk:k<exsD.length):∀ g∈(Y7 (ge exsD k).proof).frames,g.proof.length≤100000∧ZaV g.proof≤1000000000:=fun g hg=>by
 have:g=Zxc∨g=Zxb (ge exsD k).proof:=by simpa [Y7]using hg
 have hk2:k=0∨k=1∨k=2∨k=3∨k=4:=by
  have:exsD.length=5:=rfl
  omega
 rcases this with rfl | rfl
 · exact⟨nzl,nzl⟩
 · rcases hk2 with rfl | rfl | rfl | rfl | rfl<;>exact⟨of_decide_eq_true (by kernel_rfl),of_decide_eq_true (by kernel_rfl)⟩
end Go.Proofs.YtneapgbkkkjagaaGreatDoor
set_option maxHeartbeats 8000000
set_option maxRecDepth 100000
namespace Go.Proofs.YtneapgbkkkjagaaGreatDoor
open Go.Proofs.Tryz (prog)
open Go.RowKit
theorem ZiQ:Zcy prog 59 [.string ⟨#[]⟩,.bool false,.slice none 0 0,.slice none 0 0,.slice none 0 0,.slice none 0 0,.slice none 0 0,.slice none 0 0]:=⟨fun i=>(#[(0,1),(1,1),(2,1),(3,1),(4,1),(5,1),(6,1),(7,1)]:Array (Nat×Nat))[i]?,fun j hj=>by rcases j with _ | _ | _ | _ | _ | _ | _ | _ | j<;>first | rfl | (simp at hj;omega),fun parts=>by kernel_rfl⟩
theorem Zba:Zqy prog 66:=fun ad k c p q=>by kernel_rfl
theorem ZuE:prog.underlying 3=some (.int .i64):=by kernel_rfl
theorem ZuF:prog.underlying 30=some (.int .i64):=by kernel_rfl
theorem Zm8:(prog.fieldsOf 32).toList=[{ name:= "Code",type:=30,offset:=0,embedded:=false,tag:= "",pkgPath:= "",byteOffset:=0 }, { name:= "Step",type:=3,offset:=1,embedded:=false,tag:= "",pkgPath:= "",byteOffset:=8 }]:=by kernel_rfl
theorem Zm7:prog.underlying 32=some (.struct (prog.fieldsOf 32)):=by kernel_rfl
theorem ZhJ (c:Array Value) (i:Nat) (v:Value) (h:c[i]?=some v) (w:World):(part 3 c i).run prog w= .ok v w:=by
 simp[part,Tryz.isAgg3,h]
theorem ZhK (c:Array Value) (i:Nat) (v:Value) (h:c[i]?=some v) (w:World):(part 30 c i).run prog w= .ok v w:=by
 simp[part,Tryz.isAgg30,h]
theorem eqVd:EqVd prog 32:=by
 intro a b c d w x y
 refine⟨by simp[eqGuard],by simp[eqGuard],?_⟩
 unfold Op.equal Op.maxDepth
 rw[run_equalIn_struct w 9999 32 _ _ Zm7 (by kernel_rfl),Zm8]
 have e1:=fun(c:Array Value) (v:Value) (i:Nat) (h:c[i]?=some v)=>ZhK c i v h
 have e2:=fun(c:Array Value) (v:Value) (i:Nat) (h:c[i]?=some v)=>ZhJ c i v h
 have q1:(Op.equalIn 9999 30 (.int .i64 a) (.int .i64 c)).run prog w= .ok (decide (a=c)) w:=run_equalIn_int w 9998 30 .i64 .i64 a c ZuF
 have q2:(Op.equalIn 9999 3 (.int .i64 b) (.int .i64 d)).run prog w= .ok (decide (b=d)) w:=run_equalIn_int w 9998 3 .i64 .i64 b d ZuE
 simp only[Op.eqFields]
 rw[if_pos dz,if_pos dz]
 simp only[Sem.run_bind]
 rw[e1 _ (.int .i64 a) 0 rfl w,Result.andThen_ok,e1 _ (.int .i64 c) 0 rfl w,Result.andThen_ok,q1,Result.andThen_ok]
 by_cases h1:a=c
 · simp only[h1,decide_true,Bool.not_true,Bool.false_eq_true,if_false,Sem.run_bind]
   rw[e2 _ (.int .i64 b) 1 rfl w,Result.andThen_ok,e2 _ (.int .i64 d) 1 rfl w,Result.andThen_ok,q2,Result.andThen_ok]
   by_cases h2:b=d
   · simp[h2,Sem.run_pure]
   · simp[h2,Sem.run_pure]
 · simp[h1,Sem.run_pure]
section
variable {J:WP} (hJ:Stab J)
include hJ
theorem ZhE (h0:Hy)  :Fn prog J 28 [.agg (hyC h0)] (.bool (Ziv h0)):=by
 refine fE Tryz.func28 fun S w0 hS hJ0=>?_
 clear hJ0
 refine hqs tb hJ [1000] [.ptr (hyC h0),_] [0] [_] rfl ⟨iBs hS hJ,trivial⟩ ?_
 refine hqs tb hJ [1001,1004] [_,_,.int (h0.text.length:Nat),_,_] [2] U2 rfl ⟨Z3 Zm,trivial⟩ ?_
 refine ln 0 fun hl1=>?_
 exact tRn 1 (hE:=eB (rfl))
theorem Zm5 (s:BA)  :Fn prog J 30 [.str s] (.bool (ZqV s)):=by
 refine fE Tryz.func30 fun S w0 hS hJ0=>?_
 clear hJ0
 refine qs tb hJ [0] [_] [_] ?_
 refine hqs tb hJ [1003] [_,.int (s.size:Nat),_,_] [1] [_] rfl ⟨Zmp ZU,trivial⟩ ?_
 exact tRn 0 (hE:=eB (rfl))
theorem ZqK (f:Fr) (m:Int)  :Fn prog J 27 [.agg (frC f),.ptr [lI m]] (.bool (Zmu m f)):=by
 refine fE Tryz.func27 fun S w0 hS hJ0=>?_
 clear hJ0
 refine hqs tb hJ [1,1000] [.ptr (frC f),_] [0] U2 rfl ⟨iBs hS hJ,trivial⟩ ?_
 refine qs tb hJ [0,1,1000] [_] U3 ?_
 refine hqs tb hJ [1001,1052] [_,_,.int (f.proof.length:Nat),_,_,_,_,_,.int (f.text.length:Nat),_,_,_,_,_,.int (f.hyps.length:Nat),_,_,_,_,_,.int (f.dummies.length:Nat),_,_,_,_,_,.int (f.apart.length:Nat),_,_,_,_,_,.int (f.wide.length:Nat),_,_,_,_,_,_,.bool (f.hyps.any Ziv),_,_,_,_,_,.bool (f.dummies.any Ziv),_,_,_,_,.bool (f.proof.any ZqV),_,_] [2,8,14,20,26,32,39,45,50] U2 rfl ⟨Z3 Zm,Z3 Zm,Z3 Zz,Z3 Zz,Z3 ZL,Z3 ZL,fun _ _ hk hx hl hc=>Y5 (Qt hJ f.hyps 28 [] [] Ziv (fun q'=>(ZhE hJ q').rr) (Zp3)) Zhm rfl (nm hS hk) (hx) Zv (Za (hl.D 37 42 rfl hc) (Za (hl.D 38 43 rfl hc) Zg)) (js hJ hx),fun _ _ hk hx hl hc=>Y5 (Qt hJ f.dummies 28 [] [] Ziv (fun q'=>(ZhE hJ q').rr) (Zp3)) Zhm rfl (nm hS hk) (hx) Zv (Za (hl.D 43 48 rfl hc) (Za (hl.D 44 49 rfl hc) Zg)) (js hJ hx),fun _ _ hk hx hl hc=>Y5 (YD hJ f.proof 30 [] [] ZqV (fun q'=>(Zm5 hJ q').rr) (ZwP)) Zdf rfl (nm hS hk) (hx) Zv (Za (hl.D 49 54 rfl hc) (Za (Qr 30) Zg)) (js hJ hx),trivial⟩ ?_
 refine ln 0 fun hl1=>?_
 exact tRn 1 (hE:=eB (rfl))
theorem Zm6 (d:Db) (n m:Int)  :Fn prog J 6 [.agg (dbC d),.int n,.int m] (.bool (ZcY d n m)):=by
 refine fE Tryz.func6 fun S w0 hS hJ0=>?_
 clear hJ0
 refine hqs tb hJ [1,1000,1001] [.ptr (dbC d),.ptr [lI m],_] [0,1] U3 rfl ⟨iBs hS hJ,fun _ _ hk hx hl _=>Zct rfl (hl.env 2 2 _ rfl rfl) (hS _ hk.size) (js hJ hx),trivial⟩ ?_
 refine hqs tb hJ [1001,1024] [_,_,.int (d.frames.length:Nat),_,_,_,_,_,.int (d.consts.length:Nat),_,_,_,_,_,.int (d.vars.length:Nat),_,_,_,_,_,.fn 27 [.ptr [lI m]],.bool (d.frames.any (Zmu m)),_,_,_] [2,8,14,20,21] U2 rfl ⟨Z3 XS,Z3 Zm,Z3 Zm,fun _ _ _ hx hl _=>XB (caps:=[(.tmp 5)]) rfl (Za (hl.env 2 5 _ rfl rfl) Zg) hx,fun _ _ hk hx hl hc=>Y5 (ZeW hJ d.frames 27 [.ptr [lI m]] [] (Zmu m) (fun q'=>(ZqK hJ q' m).rr) (ZwQ)) ZwR rfl (nm hS hk) (hx) Zv (Za (hl.D 19 26 rfl hc) (Za (hl.D 20 27 rfl hc) Zg)) (js hJ hx),trivial⟩ ?_
 refine ln 0 fun hl1=>?_
 exact tRn 1 (hE:=eB (rfl))
theorem ZqJ (p:List BA)  :Fn prog J 32 [.rd (Zf p)] (.agg (dbC (Y7 p))):=by
 refine fE Tryz.func32 fun S w0 hS hJ0=>?_
 refine tw ZR (ln 0 fun hl1=>?_)
 refine tsq (ZT Zcz hJ rfl rfl rfl (lb rfl) fun b1=>?_)
 refine seK [0,1] U2 rfl (nx (tsq ?_))
 refine sq (.rd (Zf ([Zxa,phT]:List BA))) rfl rfl (lb rfl) (fun a _ h=>XH (k:=2) (us:=[a.eval (.const (.string { data:= #[119,102,102] })),a.eval (.const (.string { data:= #[112,104] }))]) Zd X2 rfl yz (Zi (Rel.of_lit (.string { data:= #[119,102,102] }) (lb rfl)) (Zi (Rel.of_lit (.string { data:= #[112,104] }) (lb rfl)) ZJ)) rfl dz dz (Zq hS _ h.keep h.x _ nlr) (jo hJ h.x)) ?_
 refine sq (.agg (hyC (Zjb))) rfl rfl (lb rfl) (fun a _ h=>Xe (us:=[a.eval (.const (.string { data:= #[119,112,104] })),a.eval (.const (.bool true)),a.eval (.tmp 6)]) Zgn rfl yz (Zi (Rel.of_lit (.string { data:= #[119,112,104] }) (lb rfl)) (Zi (Rel.of_lit (.bool true)) (Zi (h.get 0 rfl) ZJ))) rfl h.x) ?_
 refine sq (.rd (Zf ([Zxa,psT]:List BA))) rfl rfl (lb rfl) (fun a _ h=>XH (k:=2) (us:=[a.eval (.const (.string { data:= #[119,102,102] })),a.eval (.const (.string { data:= #[112,115] }))]) Zd X2 rfl yz (Zi (Rel.of_lit (.string { data:= #[119,102,102] }) (lb rfl)) (Zi (Rel.of_lit (.string { data:= #[112,115] }) (lb rfl)) ZJ)) rfl dz dz (Zq hS _ h.keep h.x _ nlr) (jo hJ h.x)) ?_
 refine sq (.agg (hyC (Zja))) rfl rfl (lb rfl) (fun a _ h=>Xe (us:=[a.eval (.const (.string { data:= #[119,112,115] })),a.eval (.const (.bool true)),a.eval (.tmp 8)]) Zgn rfl yz (Zi (Rel.of_lit (.string { data:= #[119,112,115] }) (lb rfl)) (Zi (Rel.of_lit (.bool true)) (Zi (h.get 0 rfl) ZJ))) rfl h.x) ?_
 refine ZT YI hJ rfl rfl rfl (lb rfl) fun b2=>?_
 refine ZT YI hJ rfl rfl rfl (lb rfl) fun b3=>?_
 refine kw pm1 (ZB (b:=b2) (off:=0) (es:=U3) (news:=U3) hJ hJ0 YN rfl rfl rfl (lb rfl) rfl (fun a w h=>⟨(h.get 1 rfl),(h.get 4 rfl)⟩) ?_)
 refine kw pm1 (ZB (b:=b3) (off:=0) (es:=U3) (news:=U3) hJ hJ0 YN rfl rfl rfl (lb rfl) rfl (fun a w h=>⟨(h.get 0 rfl),(h.get 2 rfl)⟩) ?_)
 refine seK [0,1,3,5,6,7] U6 rfl (nx (ln 2 fun hl2=>?_))
 refine ln 3 fun hl3=>?_
 refine ZG tb hJ [0,1,4,5,1000,1001] [.rd (Zf (smTx)),_] [0] U6 rfl ⟨fun a _ hk hx _ _=>XH (k:=10) (us:=[a.eval (.const (.string { data:= #[124,45] })),a.eval (.const (.string { data:= #[40] })),a.eval (.const (.string { data:= #[112,104] })),a.eval (.const (.string { data:= #[45,62] })),a.eval (.const (.string { data:= #[40] })),a.eval (.const (.string { data:= #[112,115] })),a.eval (.const (.string { data:= #[45,62] })),a.eval (.const (.string { data:= #[112,104] })),a.eval (.const (.string { data:= #[41] })),a.eval (.const (.string { data:= #[41] }))]) Zd X2 rfl yz (Zi (Rel.of_lit (.string { data:= #[124,45] }) (lb rfl)) (Zi (Rel.of_lit (.string { data:= #[40] }) (lb rfl)) (Zi (Rel.of_lit (.string { data:= #[112,104] }) (lb rfl)) (Zi (Rel.of_lit (.string { data:= #[45,62] }) (lb rfl)) (Zi (Rel.of_lit (.string { data:= #[40] }) (lb rfl)) (Zi (Rel.of_lit (.string { data:= #[112,115] }) (lb rfl)) (Zi (Rel.of_lit (.string { data:= #[45,62] }) (lb rfl)) (Zi (Rel.of_lit (.string { data:= #[112,104] }) (lb rfl)) (Zi (Rel.of_lit (.string { data:= #[41] }) (lb rfl)) (Zi (Rel.of_lit (.string { data:= #[41] }) (lb rfl)) ZJ)))))))))) rfl dz dz (Zq hS _ hk hx _ nlr) (jo hJ hx),trivial⟩ ?_
 refine ln 4 fun hl4=>?_
 refine tsq (sq (.rd (Zf ([Zxa,tuT,opT,clT,arT]:List BA))) rfl rfl (lb rfl) (fun a _ h=>XH (k:=5) (us:=[a.eval (.const (.string { data:= #[119,102,102] })),a.eval (.const (.string { data:= #[124,45] })),a.eval (.const (.string { data:= #[40] })),a.eval (.const (.string { data:= #[41] })),a.eval (.const (.string { data:= #[45,62] }))]) Zd X2 rfl yz (Zi (Rel.of_lit (.string { data:= #[119,102,102] }) (lb rfl)) (Zi (Rel.of_lit (.string { data:= #[124,45] }) (lb rfl)) (Zi (Rel.of_lit (.string { data:= #[40] }) (lb rfl)) (Zi (Rel.of_lit (.string { data:= #[41] }) (lb rfl)) (Zi (Rel.of_lit (.string { data:= #[45,62] }) (lb rfl)) ZJ))))) rfl dz dz (Zq hS _ h.keep h.x _ nlr) (jo hJ h.x)) ?_)
 refine sq (.rd (Zf ([phT,psT]:List BA))) rfl rfl (lb rfl) (fun a _ h=>XH (k:=2) (us:=[a.eval (.const (.string { data:= #[112,104] })),a.eval (.const (.string { data:= #[112,115] }))]) Zd X2 rfl yz (Zi (Rel.of_lit (.string { data:= #[112,104] }) (lb rfl)) (Zi (Rel.of_lit (.string { data:= #[112,115] }) (lb rfl)) ZJ)) rfl dz dz (Zq hS _ h.keep h.x _ nlr) (jo hJ h.x)) ?_
 refine sy (.agg (hyC (Zjb))) (fun h=>Yz (ds:=[lS ((Zjb).label),lB ((Zjb).floating),Zf ((Zjb).text)]) XY rfl (Zh h.x (mo 1 rfl)) (h.get 3 rfl) rfl rfl h.x) ?_
 refine sy (.agg (hyC (Zja))) (fun h=>Yz (ds:=[lS ((Zja).label),lB ((Zja).floating),Zf ((Zja).text)]) XY rfl (Zh h.x (mo 0 rfl)) (h.get 3 rfl) rfl rfl h.x) ?_
 refine sq (.rd (Y1 ([Zjb,Zja]))) rfl rfl (lb rfl) (fun a _ h=>ZhQ (z:= #[.string ⟨#[]⟩,.bool false,.slice none 0 0]) (cs:=[hyC (Zjb),hyC (Zja)]) (vs:=[a.eval (.tmp 13),a.eval (.tmp 14)]) Zo (fun w=>by kernel_rfl) rfl yz (Za (h.get 1 rfl) (Za (h.get 0 rfl) Zg)) (of_decide_eq_true rfl) rfl dz dz dz (Zq hS _ h.keep h.x _ nlr) (jo hJ h.x)) ?_
 refine snK 1 tb rfl (sq (.agg (frC (Zxc))) rfl rfl (lb rfl) (fun a _ h=>Yh (ps:=[(0,a.eval (.const (.string { data:= #[97,120,45,49] }))),(2,a.eval (.tmp 15)),(4,a.eval (.tmp 16))]) (us:=[a.eval (.const (.string { data:= #[97,120,45,49] })),.bool false,a.eval (.tmp 15),.slice none 0 0,a.eval (.tmp 16),.slice none 0 0,.slice none 0 0,.slice none 0 0]) ZiQ rfl yz (Zcx (lb rfl) rfl (Zcx (lb rfl) (Rel.oneC (h.get 1 rfl)) (Zcx (lb rfl) (Rel.oneC (h.get 0 rfl)) ZcJ))) rfl (Zi (Rel.of_lit (.string { data:= #[97,120,45,49] }) (lb rfl)) (Ys (.lit _ True.intro) (Zi (h.get 1 rfl) (Ys (.nil _ _ nzl) (Zi (h.get 0 rfl) (Ys (.nil _ _ nzl) (Ys (.nil _ _ nzl) (Ys (.nil _ _ nzl) ZJ)))))))) h.x) ?_)
 refine sy (.agg (hyC (Zjb))) (fun h=>Yz (ds:=[lS ((Zjb).label),lB ((Zjb).floating),Zf ((Zjb).text)]) XY rfl (Zh h.x (mo 1 rfl)) (h.get 8 rfl) rfl rfl h.x) ?_
 refine sy (.agg (hyC (Zja))) (fun h=>Yz (ds:=[lS ((Zja).label),lB ((Zja).floating),Zf ((Zja).text)]) XY rfl (Zh h.x (mo 0 rfl)) (h.get 8 rfl) rfl rfl h.x) ?_
 refine sq (.rd (Y1 ([Zjb,Zja]))) rfl rfl (lb rfl) (fun a _ h=>ZhQ (z:= #[.string ⟨#[]⟩,.bool false,.slice none 0 0]) (cs:=[hyC (Zjb),hyC (Zja)]) (vs:=[a.eval (.tmp 18),a.eval (.tmp 19)]) Zo (fun w=>by kernel_rfl) rfl yz (Za (h.get 1 rfl) (Za (h.get 0 rfl) Zg)) (of_decide_eq_true rfl) rfl dz dz dz (Zq hS _ h.keep h.x _ nlr) (jo hJ h.x)) ?_
 refine snK 2 tb rfl (sq (.agg (frC (Zxb p))) rfl rfl (lb rfl) (fun a _ h=>Yh (ps:=[(0,a.eval (.const (.string { data:= #[116,104] }))),(1,a.eval (.const (.bool true))),(2,a.eval (.tmp 20)),(4,a.eval (.tmp 21)),(7,a.eval (.tmp 22))]) (us:=[a.eval (.const (.string { data:= #[116,104] })),a.eval (.const (.bool true)),a.eval (.tmp 20),.slice none 0 0,a.eval (.tmp 21),.slice none 0 0,.slice none 0 0,a.eval (.tmp 22)]) ZiQ rfl yz (Zcx (lb rfl) rfl (Zcx (lb rfl) rfl (Zcx (lb rfl) (Rel.oneC (h.get 2 rfl)) (Zcx (lb rfl) (Rel.oneC (h.get 1 rfl)) (Zcx (lb rfl) (Rel.oneC (h.get 0 rfl)) ZcJ))))) rfl (Zi (Rel.of_lit (.string { data:= #[116,104] }) (lb rfl)) (Zi (Rel.of_lit (.bool true)) (Zi (h.get 2 rfl) (Ys (.nil _ _ nzl) (Zi (h.get 1 rfl) (Ys (.nil _ _ nzl) (Ys (.nil _ _ nzl) (Zi (h.get 0 rfl) ZJ)))))))) h.x) ?_)
 refine sq (.rd (Zb9 ([Zxc,(Zxb p)]))) rfl rfl (lb rfl) (fun a _ h=>ZhQ (z:= #[.string ⟨#[]⟩,.bool false,.slice none 0 0,.slice none 0 0,.slice none 0 0,.slice none 0 0,.slice none 0 0,.slice none 0 0]) (cs:=[frC (Zxc),frC (Zxb p)]) (vs:=[a.eval (.tmp 17),a.eval (.tmp 23)]) ZV (fun w=>by kernel_rfl) rfl yz (Za (h.get 6 rfl) (Za (h.get 0 rfl) Zg)) (of_decide_eq_true rfl) rfl dz dz dz (Zq hS _ h.keep h.x _ nlr) (jo hJ h.x)) ?_
 refine sq (.agg (dbC (Y7 p))) rfl rfl (lb rfl) (fun a _ h=>Xe (us:=[a.eval (.tmp 11),a.eval (.tmp 12),a.eval (.tmp 24)]) ZmQ rfl yz (Zi (h.get 13 rfl) (Zi (h.get 12 rfl) (Zi (h.get 0 rfl) ZJ))) rfl h.x) ?_
 refine kw pm2 (ZB (b:=b1) (off:=0) (es:=U3) (news:=U3) hJ hJ0 ZeL rfl rfl rfl (lb rfl) rfl (fun a w h=>⟨(h.get 17 rfl),(h.get 0 rfl)⟩) ?_)
 refine seK [1,5,10,13,14,17] U6 rfl (nx (ln 0 fun hl5=>?_))
 refine ln 1 fun hl6=>?_
 refine ln 3 fun hl7=>?_
 refine ln 4 fun hl8=>?_
 exact ZA (fun a w h=>Xx (m:=5) rfl Zdr h rfl rfl (show(_:List CD)=[Zf ((Y7 p).consts),Zf ((Y7 p).vars),Zb9 ((Y7 p).frames)]from rfl))
theorem ZgA  (hG:Q2 J):Fn prog J 9 [] (.bool true):=by
 refine fE Tryz.func9 fun S w0 hS hJ0=>?_
 refine tw ZR (qso tb hJ [] [_] [] ?_)
 refine Ze (Ze (Yo tb hJ [1000,1003,1006,1009,1012,1015,1016,1017] [.rd (Zf ([Zdt,Zgy,Zbv]:List BA)),.agg (vdC (⟨0,0⟩:Int×Int)),.agg (exC (⟨([Zdt,Zgy,Zbv]:List BA),(⟨0,0⟩:Int×Int)⟩:Exm)),.rd (Zf ([Zdt,Zbv]:List BA)),.agg (vdC (⟨(23:Int),(1:Int)⟩:Int×Int)),.agg (exC (⟨([Zdt,Zbv]:List BA),(⟨(23:Int),(1:Int)⟩:Int×Int)⟩:Exm)),.rd (Zf ([opT,Zbv,clT,(⟨#[65,66,67]⟩:BA)]:List BA)),.agg (vdC (⟨0,0⟩:Int×Int)),.agg (exC (⟨([opT,Zbv,clT,(⟨#[65,66,67]⟩:BA)]:List BA),(⟨0,0⟩:Int×Int)⟩:Exm)),.rd (Zf ([opT,clT,(⟨#[65,66,68]⟩:BA)]:List BA)),.agg (vdC (⟨(21:Int),0⟩:Int×Int)),.agg (exC (⟨([opT,clT,(⟨#[65,66,68]⟩:BA)]:List BA),(⟨(21:Int),0⟩:Int×Int)⟩:Exm)),.rd (Zf ([Zgy,Zdt,Zbv]:List BA)),.agg (vdC (⟨(28:Int),(3:Int)⟩:Int×Int)),.agg (exC (⟨([Zgy,Zdt,Zbv]:List BA),(⟨(28:Int),(3:Int)⟩:Int×Int)⟩:Exm)),.rd (exsC ([(⟨([Zdt,Zgy,Zbv]:List BA),(⟨0,0⟩:Int×Int)⟩:Exm),(⟨([Zdt,Zbv]:List BA),(⟨(23:Int),(1:Int)⟩:Int×Int)⟩:Exm),(⟨([opT,Zbv,clT,(⟨#[65,66,67]⟩:BA)]:List BA),(⟨0,0⟩:Int×Int)⟩:Exm),(⟨([opT,clT,(⟨#[65,66,68]⟩:BA)]:List BA),(⟨(21:Int),0⟩:Int×Int)⟩:Exm),(⟨([Zgy,Zdt,Zbv]:List BA),(⟨(28:Int),(3:Int)⟩:Int×Int)⟩:Exm)])),.int (([(⟨([Zdt,Zgy,Zbv]:List BA),(⟨0,0⟩:Int×Int)⟩:Exm),(⟨([Zdt,Zbv]:List BA),(⟨(23:Int),(1:Int)⟩:Int×Int)⟩:Exm),(⟨([opT,Zbv,clT,(⟨#[65,66,67]⟩:BA)]:List BA),(⟨0,0⟩:Int×Int)⟩:Exm),(⟨([opT,clT,(⟨#[65,66,68]⟩:BA)]:List BA),(⟨(21:Int),0⟩:Int×Int)⟩:Exm),(⟨([Zgy,Zdt,Zbv]:List BA),(⟨(28:Int),(3:Int)⟩:Int×Int)⟩:Exm)]).length:Nat),_] [0,1,2,3,4,5,6,7,8,9,10,11,12,13,14,15,16] U8 rfl ⟨fun a _ hk hx _ _=>XH (k:=3) (us:=[a.eval (.const (.string { data:= #[119,112,104] })),a.eval (.const (.string { data:= #[119,112,115] })),a.eval (.const (.string { data:= #[97,120,45,49] }))]) Zd X2 rfl yz (Zi (Rel.of_lit (.string { data:= #[119,112,104] }) (lb rfl)) (Zi (Rel.of_lit (.string { data:= #[119,112,115] }) (lb rfl)) (Zi (Rel.of_lit (.string { data:= #[97,120,45,49] }) (lb rfl)) ZJ))) rfl dz dz (Zq hS _ hk hx _ nlr) (jo hJ hx),fun _ _ _ hx _ _=>Yh (ps:=[]) (us:=[.int .i64 0,.int .i64 0]) Qx rfl yz ZcJ rfl (Ys (.lit _ True.intro) (Ys (.lit _ True.intro) ZJ)) hx,fun _ _ _ hx hl _=>ZbH (xs:=([Zdt,Zgy,Zbv]:List BA)) Zba rfl (hl.D 0 5 rfl rfl) (hl.D 1 6 rfl rfl) hx,fun a _ hk hx _ _=>XH (k:=2) (us:=[a.eval (.const (.string { data:= #[119,112,104] })),a.eval (.const (.string { data:= #[97,120,45,49] }))]) Zd X2 rfl yz (Zi (Rel.of_lit (.string { data:= #[119,112,104] }) (lb rfl)) (Zi (Rel.of_lit (.string { data:= #[97,120,45,49] }) (lb rfl)) ZJ)) rfl dz dz (Zq hS _ hk hx _ nlr) (jo hJ hx),fun a _ _ hx _ _=>Xe (us:=[a.eval (.const (.int .i64 23)),a.eval (.const (.int .i64 1))]) Ql rfl yz (Zi (Rel.of_lit (.int .i64 23)) (Zi (Rel.of_lit (.int .i64 1)) ZJ)) rfl hx,fun _ _ _ hx hl _=>ZbH (xs:=([Zdt,Zbv]:List BA)) Zba rfl (hl.D 3 8 rfl rfl) (hl.D 4 9 rfl rfl) hx,fun a _ hk hx _ _=>XH (k:=4) (us:=[a.eval (.const (.string { data:= #[40] })),a.eval (.const (.string { data:= #[97,120,45,49] })),a.eval (.const (.string { data:= #[41] })),a.eval (.const (.string { data:= #[65,66,67] }))]) Zd X2 rfl yz (Zi (Rel.of_lit (.string { data:= #[40] }) (lb rfl)) (Zi (Rel.of_lit (.string { data:= #[97,120,45,49] }) (lb rfl)) (Zi (Rel.of_lit (.string { data:= #[41] }) (lb rfl)) (Zi (Rel.of_lit (.string { data:= #[65,66,67] }) (lb rfl)) ZJ)))) rfl dz dz (Zq hS _ hk hx _ nlr) (jo hJ hx),fun _ _ _ hx _ _=>Yh (ps:=[]) (us:=[.int .i64 0,.int .i64 0]) Qx rfl yz ZcJ rfl (Ys (.lit _ True.intro) (Ys (.lit _ True.intro) ZJ)) hx,fun _ _ _ hx hl _=>ZbH (xs:=([opT,Zbv,clT,(⟨#[65,66,67]⟩:BA)]:List BA)) Zba rfl (hl.D 6 11 rfl rfl) (hl.D 7 12 rfl rfl) hx,fun a _ hk hx _ _=>XH (k:=3) (us:=[a.eval (.const (.string { data:= #[40] })),a.eval (.const (.string { data:= #[41] })),a.eval (.const (.string { data:= #[65,66,68] }))]) Zd X2 rfl yz (Zi (Rel.of_lit (.string { data:= #[40] }) (lb rfl)) (Zi (Rel.of_lit (.string { data:= #[41] }) (lb rfl)) (Zi (Rel.of_lit (.string { data:= #[65,66,68] }) (lb rfl)) ZJ))) rfl dz dz (Zq hS _ hk hx _ nlr) (jo hJ hx),fun a _ _ hx _ _=>Yh (ps:=[(0,a.eval (.const (.int .i64 21)))]) (us:=[a.eval (.const (.int .i64 21)),.int .i64 0]) Qx rfl yz (Zcx (lb rfl) rfl ZcJ) rfl (Zi (Rel.of_lit (.int .i64 21)) (Ys (.lit _ True.intro) ZJ)) hx,fun _ _ _ hx hl _=>ZbH (xs:=([opT,clT,(⟨#[65,66,68]⟩:BA)]:List BA)) Zba rfl (hl.D 9 14 rfl rfl) (hl.D 10 15 rfl rfl) hx,fun a _ hk hx _ _=>XH (k:=3) (us:=[a.eval (.const (.string { data:= #[119,112,115] })),a.eval (.const (.string { data:= #[119,112,104] })),a.eval (.const (.string { data:= #[97,120,45,49] }))]) Zd X2 rfl yz (Zi (Rel.of_lit (.string { data:= #[119,112,115] }) (lb rfl)) (Zi (Rel.of_lit (.string { data:= #[119,112,104] }) (lb rfl)) (Zi (Rel.of_lit (.string { data:= #[97,120,45,49] }) (lb rfl)) ZJ))) rfl dz dz (Zq hS _ hk hx _ nlr) (jo hJ hx),fun a _ _ hx _ _=>Xe (us:=[a.eval (.const (.int .i64 28)),a.eval (.const (.int .i64 3))]) Ql rfl yz (Zi (Rel.of_lit (.int .i64 28)) (Zi (Rel.of_lit (.int .i64 3)) ZJ)) rfl hx,fun _ _ _ hx hl _=>ZbH (xs:=([Zgy,Zdt,Zbv]:List BA)) Zba rfl (hl.D 12 17 rfl rfl) (hl.D 13 18 rfl rfl) hx,fun a w hk hx hl _=>ZhQ (z:= #[.slice none 0 0,.int .i64 0,.int .i64 0]) (cs:=[exC (⟨([Zdt,Zgy,Zbv]:List BA),(⟨0,0⟩:Int×Int)⟩:Exm),exC (⟨([Zdt,Zbv]:List BA),(⟨(23:Int),(1:Int)⟩:Int×Int)⟩:Exm),exC (⟨([opT,Zbv,clT,(⟨#[65,66,67]⟩:BA)]:List BA),(⟨0,0⟩:Int×Int)⟩:Exm),exC (⟨([opT,clT,(⟨#[65,66,68]⟩:BA)]:List BA),(⟨(21:Int),0⟩:Int×Int)⟩:Exm),exC (⟨([Zgy,Zdt,Zbv]:List BA),(⟨(28:Int),(3:Int)⟩:Int×Int)⟩:Exm)]) (vs:=[a.eval (.tmp 7),a.eval (.tmp 10),a.eval (.tmp 13),a.eval (.tmp 16),a.eval (.tmp 19)]) Zd2 (fun w=>by kernel_rfl) rfl yz (Za (hl.D 2 7 rfl rfl) (Za (hl.D 5 10 rfl rfl) (Za (hl.D 8 13 rfl rfl) (Za (hl.D 11 16 rfl rfl) (Za (hl.D 14 19 rfl rfl) Zg))))) (of_decide_eq_true rfl) rfl dz dz dz (Zq hS _ hk hx _ nlr) (jo hJ hx),Z3 ZlK,trivial⟩ ?_))
 refine kw (sa 5 rfl (show(.rd (exsC ([(⟨([Zdt,Zgy,Zbv]:List BA),(⟨0,0⟩:Int×Int)⟩:Exm),(⟨([Zdt,Zbv]:List BA),(⟨(23:Int),(1:Int)⟩:Int×Int)⟩:Exm),(⟨([opT,Zbv,clT,(⟨#[65,66,67]⟩:BA)]:List BA),(⟨0,0⟩:Int×Int)⟩:Exm),(⟨([opT,clT,(⟨#[65,66,68]⟩:BA)]:List BA),(⟨(21:Int),0⟩:Int×Int)⟩:Exm),(⟨([Zgy,Zdt,Zbv]:List BA),(⟨(28:Int),(3:Int)⟩:Int×Int)⟩:Exm)])):AV)= .rd (exsC exsD)from rfl)) (kw (sa 6 rfl (show(.int (([(⟨([Zdt,Zgy,Zbv]:List BA),(⟨0,0⟩:Int×Int)⟩:Exm),(⟨([Zdt,Zbv]:List BA),(⟨(23:Int),(1:Int)⟩:Int×Int)⟩:Exm),(⟨([opT,Zbv,clT,(⟨#[65,66,67]⟩:BA)]:List BA),(⟨0,0⟩:Int×Int)⟩:Exm),(⟨([opT,clT,(⟨#[65,66,68]⟩:BA)]:List BA),(⟨(21:Int),0⟩:Int×Int)⟩:Exm),(⟨([Zgy,Zdt,Zbv]:List BA),(⟨(28:Int),(3:Int)⟩:Int×Int)⟩:Exm)]).length:Nat):AV)= .int (exsD.length:Nat)from rfl)) ?_)
 refine nx (ln 0 fun hl1=>?_)
 refine ln 1 fun hl2=>?_
 refine ln 2 fun hl3=>?_
 refine ln 3 fun hl4=>?_
 refine ln 4 fun hl5=>?_
 refine ln 5 fun hl6=>?_
 refine Zc (lpo (ι:=Nat) (fun k=>(k≤exsD.length)) (fun _=>[]) (fun k=>[(22,.int (k:Nat))]) (fun k=>exsD.length-k) [5,6,7] U2 0 (show(0≤exsD.length)from Nat.zero_le _) ?_)
 rintro k hF
 have f1_1:k≤exsD.length:=hF
 refine qso tb hJ [0,1,2,1000] [_] U4 ?_
 refine cjS 3 (fun hb1=>?_) fun hb1=>?_
 ·
  try simp at hb1
  refine Zb (nx (Ze (Zc (tsq (sy (.ptr (exC (ge exsD k))) (fun h=>ZQ (i:=(k:Int)) Zd2 rfl (h.get 0 rfl) (h.get 2 rfl) nnn (Z0 (xs:=exsD) (k:=k) sfz) rfl h.x) ?_)))))
  refine sy (.agg (exC (ge exsD k))) (fun h=>ZaN ZtF rfl (h.get 0 rfl) nlr h.x) ?_
  refine XZ (cs:=exC (ge exsD k)) ZqL rfl rfl rfl (lb rfl) rfl rfl rfl dz (m:=0) rfl rfl (fun a w h=>Zq hS _ h.keep h.x _ nlr) (fun a w h w' hk'=>YA hJ _ _ hk' h.x) ?_
  refine seK [0,3,4,5] U4 rfl (nx (tsq ?_))
  refine sy (.ptr (exC (ge exsD k))) (fun h=>ZN ZmC rfl (h.get 0 rfl) h.x) ?_
  refine snK 1 tb rfl (sy (.agg (dbC (Y7 ((ge exsD k).proof)))) (fun h=>ZaY (ZqJ hJ ((ge exsD k).proof)) ZwN rfl (Zq hS _ h.keep h.x) (h.x.1) (Za (h.get 0 rfl) Zg) (jo hJ h.x)) ?_)
  refine sy (.tup [.agg (vdC ((ZfH (Y7 ((ge exsD k).proof)) (1:Int)).1)),.int ((ZfH (Y7 ((ge exsD k).proof)) (1:Int)).2)]) (fun h=>ZaY (Zos hJ (Y7 ((ge exsD k).proof)) (1:Int) (by exact sam_hw _) (by exact hG) (by exact sam_pl oz)) ZwT rfl (Zq hS _ h.keep h.x) (h.x.1) (Za (h.get 0 rfl) (Za (Rel.of_lit (.int .i64 1)) Zg)) (jo hJ h.x)) ?_
  refine snK 3 tb rfl (XZ (cs:=vdC ((ZfH (Y7 ((ge exsD k).proof)) (1:Int)).1)) ZgB rfl rfl rfl (lb rfl) rfl rfl rfl dz (m:=1) rfl rfl (fun a w h=>Zq hS _ h.keep h.x _ nlr) (fun a w h w' hk'=>YA hJ _ _ hk' h.x) ?_)
  refine snK 1 tb rfl (seK [0,1,7,9,10,11,12] U7 rfl ?_)
  refine nx (ln 2 fun hl7=>?_)
  refine ZG tb hJ [4,5,6,1007] (V4 [.ptr [lI ((ge exsD k).v.1),lI ((ge exsD k).v.2)],_,.bool (!(decide (((ZfH (Y7 ((ge exsD k).proof)) (1:Int)).1).1=((ge exsD k).v.1))&&decide (((ZfH (Y7 ((ge exsD k).proof)) (1:Int)).1).2=((ge exsD k).v.2)))),_]) [4,6] U4 rfl ⟨fun _ _ _ hx hl _=>ZN ZmB rfl (hl.env 3 2 _ rfl rfl) hx,fun _ _ _ hx hl hc=>ZnY eqVd rfl (hl.D 3 36 rfl hc) (hl.D 5 38 rfl hc) hx,trivial⟩ ?_
  refine cj 3 (fun hb2=>?_) fun hb2=>?_
  ·
   try simp at hb2
   exact False.elim (by have h9:=ZuR (k:=k) oz;simp[h9]at hb2)
  ·
   try simp at hb2
   refine Zb (nx (Yo tb hJ [0,1,1001] [.int (k+1:Nat),_] [0] U3 rfl ⟨Z7,trivial⟩ ?_))
   exact YE (k+1) [0,1,2] (show((k+1)≤exsD.length)from by omega)
 ·
  try simp at hb1
  refine Zs (nx (qso tb hJ [1000] [_] [_] ?_))
  exact tRo 0 (hE:=rfl)
end
end Go.Proofs.YtneapgbkkkjagaaGreatDoor
namespace Go.Proofs.YtneapgbkkkjagaaGreatDoor
section
variable {fs:List Fr} {vars:List BA} {f:Fr} {xs ys:List Itm} {M:List (BA×Int)}
end
section
variable {d:Db} {z:Int} {t:List BA}
theorem Zjl:(ZgR d z t).2=YX d z:=by unfold ZgR;split<;>simp_all
end
section
variable {fs:List Fr} {vars:List BA} {f:Fr} {xs:List Itm} {m:Ms} {d:Db} {t:List BA}
def okCp (d:Db):Prop:=d.consts.length≤100000∧d.vars.length≤100000∧d.frames.length≤100000∧∀ g∈d.frames,g.hyps.length≤100000∧g.dummies.length≤100000∧g.text.length≤100000∧g.proof.length≤100000∧g.apart.length≤100000∧g.wide.length≤100000∧(∀ h∈g.hyps,h.text.length≤100000)∧∀ h∈g.dummies,h.text.length≤100000
theorem ZqX (h:ZcY d 20 200=true):okCp d:=by
 simp only[ZcY,Bool.and_eq_true,decide_eq_true_eq,Bool.not_eq_true',List.any_eq_false]at h
 obtain⟨⟨⟨h1,h2⟩,h3⟩,h4⟩:=h
 refine⟨oz,oz,oz,fun g hg=>?_⟩
 have h5:=h4 g hg
 simp only[Zmu,Bool.or_eq_true,not_or,decide_eq_true_eq,Bool.not_eq_true,List.any_eq_false,Ziv]at h5
 obtain⟨⟨⟨⟨⟨⟨⟨⟨p1,p2⟩,p3⟩,p4⟩,p5⟩,p6⟩,p7⟩,p8⟩,p9⟩:=h5
 refine⟨oz,oz,oz,oz,oz,oz,fun y hy=>?_,fun y hy=>?_⟩
 · have:=p7 y hy;omega
 · have:=p8 y hy;omega
end
theorem Zkr {d:Db} {n m:Int} (h:ZcY d n m=true):∀ g∈d.frames,g.apart.length≤100000:=fun g hg=>by
 simp only[ZcY,Bool.and_eq_true,Bool.not_eq_true',List.any_eq_false]at h
 have h1:=h.2 g hg
 simp only[Zmu,Bool.or_eq_true,not_or,decide_eq_true_eq,Bool.not_eq_true]at h1
 have:=h1.1.1.1.1.2
 omega
section
variable {fs:List Fr} {vars:List BA} {f:Fr} {xs:List Itm} {m:Ms} {s:Rs} {k:Nat}
theorem ZvF (hk:m.kn=false→m.n=k) (hle:m.n≤k):(ZI fs vars f xs m).did=decide ((ZI fs vars f xs m).n=k+1)∧(ZI fs vars f xs m).n≤k+1∧((ZI fs vars f xs m).kn=false→(ZI fs vars f xs m).n=k+1):=by
 obtain⟨sk,tg,n,kn,v,did⟩:=m
 cases hkn:kn with
 | true=>rw[ZcV rfl];exact⟨(decide_eq_false (by show ¬ n=k+1;have:n≤k:=hle;omega)).symm,Nat.le_succ_of_le hle,fun h=>by cases h⟩
 | false=>
  subst hkn
  have hn:n=k:=hk rfl
  cases hd':Xi fs vars f sk tg (ge xs n)with
  | error c=>rw[ZbB rfl hd'];exact⟨(decide_eq_false (by show ¬ n=k+1;omega)).symm,Nat.le_succ_of_le hle,fun h=>by cases h⟩
  | ok s'=>
   rw[ZbX rfl hd']
   generalize (if(ge xs n).tagged=true then tg++[ge s' ((s'.length:Int)-1).toNat]else tg)=tg'
   unfold ZbO
   split
   · exact⟨(decide_eq_true (by show n+1=k+1;omega)).symm,by show n+1≤k+1;omega,fun _=>by show n+1=k+1;omega⟩
   · exact⟨(decide_eq_true (by show n+1=k+1;omega)).symm,by show n+1≤k+1;omega,fun h=>by cases h⟩
theorem mch_rs {d:Db} {n:Nat} {t:List BA} (hm:m=ZaM d.frames d.vars (ge d.frames n) (Yi d n t) k (XK d n t)):Qm d n t (k+1)=ZfL (ZI d.frames d.vars (ge d.frames n) (Yi d n t) m):=by
 rw[Qm,X4,hm]
theorem ZvD (hs:s=ZfL m) (hd:m.did=decide (m.n=k+1)) (h:((!(m.did==decide (((s.n:Nat):Int)=((k+1:Nat):Int)))|| !decide (((m.n:Nat):Int)=((s.n:Nat):Int)))|| !decide (m.sk=s.sk))=true):False:=by
 subst hs
 have e:decide ((((ZfL m).n:Nat):Int)=((k+1:Nat):Int))=decide (m.n=k+1):=decide_eq_decide.2 ⟨fun e=>Int.ofNat.inj e,fun e=>congrArg Int.ofNat e⟩
 rw[e,hd]at h
 simp[ZfL]at h
theorem ZkU (hs:s=ZfL m) (hk:s.kn=false) (h:(!(decide ((if m.kn=true then((m.v.1,m.v.2):Int×Int)else(16,(m.n:Int))).1=(16:Int))&&decide ((if m.kn=true then((m.v.1,m.v.2):Int×Int)else(16,(m.n:Int))).2=((s.n:Nat):Int))))=true):False:=by
 subst hs
 have hk:m.kn=false:=hk
 simp[ZfL,hk]at h
theorem ZkT (hs:s=ZfL m) (hk:s.kn=true) (h:(!(decide ((if m.kn=true then((m.v.1,m.v.2):Int×Int)else(16,(m.n:Int))).1=s.v.1)&&decide ((if m.kn=true then((m.v.1,m.v.2):Int×Int)else(16,(m.n:Int))).2=s.v.2)))=true):False:=by
 subst hs
 have hk:m.kn=true:=hk
 simp[ZfL,hk]at h
theorem Zua {d:Db} {t:List BA} (h:(((!ZcY d 20 200)||decide ((80:Int)< ((t.length:Nat):Int)))||t.any (fun s'=>decide ((200:Int)< ((s'.size:Nat):Int))))=false):ZcY d 20 200=true∧t.length≤80∧ZaV t≤1000000000:=by
 simp only[Bool.or_eq_false_iff,Bool.not_eq_false',decide_eq_false_iff_not,List.any_eq_false,decide_eq_true_eq]at h
 obtain⟨⟨h1,h2⟩,h5⟩:=h
 have h6:=sum_le (l:=t) (m:=200) fun s hs=>by have:=h5 s hs;omega
 refine⟨h1,oz,?_⟩
 have:t.length*200≤80*200:=Nat.mul_le_mul_right _ oz
 omega
end
end Go.Proofs.YtneapgbkkkjagaaGreatDoor
set_option maxHeartbeats 8000000
set_option maxRecDepth 100000
namespace Go.Proofs.YtneapgbkkkjagaaGreatDoor
open Go.RowKit
theorem Zuk:Zk Tryz.prog 6:=Zp Tryz.func6 rfl rfl
theorem Zll:Zk Tryz.prog 9:=Zp Tryz.func9 rfl rfl
theorem Zqa:Zk Tryz.prog 11:=Zp Tryz.func11 rfl rfl
end Go.Proofs.YtneapgbkkkjagaaGreatDoor
set_option maxHeartbeats 8000000
set_option maxRecDepth 100000
namespace Go.Proofs.YtneapgbkkkjagaaGreatDoor
open Go.Proofs.Tryz (prog)
open Go.RowKit
theorem Zfr:Zk prog 59:=Zp Tryz.func59 rfl rfl
theorem Zig:QM prog 75:=fun w=>by kernel_rfl
theorem ZpW:Zk prog 60:=Zp Tryz.func60 rfl rfl
theorem Znc:Zgu prog 75 [.lit .nilFunc]:=⟨(.nilFunc),fun w=>by kernel_rfl,fun S w=>(show RdL S w [.lit .nilFunc] [.nilFunc]from⟨.lit _ True.intro,trivial⟩)⟩
theorem ZnC:XR prog 75 1:=fun w=>by kernel_rfl
theorem Zql:Zcy prog 25 [.slice none 0 0,.slice none 0 0,.slice none 0 0]:=⟨fun i=>(#[(0,1),(1,1),(2,1)]:Array (Nat×Nat))[i]?,fun j hj=>by rcases j with _ | _ | _ | j<;>first | rfl | (simp at hj;omega),fun parts=>by kernel_rfl⟩
theorem Zd6:Zgu prog 59 [lS ⟨#[]⟩,lB false,.sl [],.sl [],.sl [],.sl [],.sl [],.sl []]:=⟨(.agg #[.string ⟨#[]⟩,.bool false,.slice none 0 0,.slice none 0 0,.slice none 0 0,.slice none 0 0,.slice none 0 0,.slice none 0 0]),fun w=>by kernel_rfl,fun S w=>(show RdL S w [lS ⟨#[]⟩,lB false,.sl [],.sl [],.sl [],.sl [],.sl [],.sl []] [.string ⟨#[]⟩,.bool false,.slice none 0 0,.slice none 0 0,.slice none 0 0,.slice none 0 0,.slice none 0 0,.slice none 0 0]from⟨.lit _ nzl,.lit _ True.intro,.nil _ _ nzl,.nil _ _ nzl,.nil _ _ nzl,.nil _ _ nzl,.nil _ _ nzl,.nil _ _ nzl,trivial⟩)⟩
theorem ZnD:XR prog 59 8:=fun w=>by kernel_rfl
theorem Zqq:Zgw prog 23 59 8 168:=ZqD (.agg #[.string ⟨#[]⟩,.bool false,.slice none 0 0,.slice none 0 0,.slice none 0 0,.slice none 0 0,.slice none 0 0,.slice none 0 0]) (by kernel_rfl) (by kernel_rfl) rfl dz (fun w=>by kernel_rfl)
theorem ZnF:XR prog 23 1:=fun w=>by kernel_rfl
section
variable {J:WP} (hJ:Stab J)
include hJ
theorem ZeS (l:List BA) (b:l.length≤100000):Fn prog J 59 [.rd (Zf l)] (.rd (Zf l)):=by
 refine fE Tryz.func59 fun S w0 hS hJ0=>?_
 refine tw ZR (ln 0 fun hl1=>?_)
 refine qso tb hJ [0] [_] [_] ?_
 refine tsq (snK 1 tb rfl (Xv (O:=[]) (R:=[]) (Zel hJ l sfz) Zft rfl rfl rfl (lb rfl) hS hJ0 Zv (fun a w h=>(Za (h.get 0 rfl) Zg)) fun z1=>?_))
 refine snK 1 tb rfl (seK [0] [_] rfl ?_)
 exact nx (tw (fun h=>ZO hS h (m:=0) (s:=2) rfl) (tRo 0 (hE:=rfl)))
theorem Zt3 (l:List Hy) (b:l.length≤100000∧∀ h∈l,h.text.length≤100000):Fn prog J 60 [.rd (Y1 l),.ptr [.lit (.func (.func 59) #[] #[])]] (.rd (Y1 l)):=by
 refine fE Tryz.func60 fun S w0 hS hJ0=>?_
 refine tw ZR (ln 0 fun hl1=>?_)
 refine qso tb hJ [0,1] [_] U2 ?_
 refine tsq (snK 1 tb rfl (Xv (O:=[]) (R:=[]) (ZkM hJ l sfz) ZpV rfl rfl rfl (lb rfl) hS hJ0 Zv (fun a w h=>(Za (h.get 0 rfl) Zg)) fun z1=>?_))
 refine snK 1 tb rfl (seK [0,3] U2 rfl ?_)
 refine nx (Ze (ZmW tb hJ [0,1,1001,1002] [_,.int (l.length:Nat),_] [1] U4 rfl ⟨fun _ _ _ hx hl _=>Zai Zz rfl (Qa hS hx (mo 0 rfl) (hl.D 0 7 rfl rfl)) hx,trivial⟩ ?_))
 refine Zc (lpo (ι:=Nat) (fun k=>(k≤l.length)) (fun _=>[OB.row z1 61 3 (l.map hyC)]) (fun k=>[(9,.int (k:Nat))]) (fun k=>l.length-k) [0,1,2,3] U3 0 (show(0≤l.length)from Nat.zero_le _) ?_)
 rintro k hF
 have f1_1:k≤l.length:=hF
 refine qso tb hJ [0,1,2,3,1000] [_] U5 ?_
 refine cjS 4 (fun hb1=>?_) fun hb1=>?_
 ·
  try simp at hb1
  refine Zb (nx (Ze (Zc (qso tb hJ [0,1,2,3,1001] U2 U5 ?_))))
  refine fun a w h=>YF (γ:=Unit) (fun ix'=>([.lit z1,.int (k:Nat),.lit (.func (.func 59) #[] #[]),.lit z1,.int (k:Nat),.lit (Y8 z1 (k*3)),.lit (Y8 z1 (k*3+2)),.rd (Zf ((ge l k).text)),.rd (Zf ((ge l k).text)),.lit (Y8 z1 (k*3)),.lit (Y8 z1 (k*3+2)),.any]:List AV).getD ix' .any) (fun _=>true) [(0,fun _=>.lit z1),(1,fun _=>.ptr [.lit (.func (.func 59) #[] #[])]),(8,fun _=>.int (l.length:Nat)),(9,fun _=>.int (k:Nat))] (fun _ _=>[OB.row z1 61 3 (l.map hyC)]) (fun _ _=>undef) [11] 1 () (fun _=>rfl) h hJ Yr rfl rfl rfl rfl rfl rfl hsb ⟨?_,?_,?_,?_,?_,?_,?_,?_,?_,?_,?_,?_,trivial⟩ ⟨?e5_1_0,trivial⟩ ⟨.old 0 0 _,.old 1 1 _,.old 2 8 _,.old 3 9 _,trivial⟩ ?n5_1
  exact oX rfl fun hx hl=>Z2 rfl (hl.env 0 0 _ rfl rfl) hx
  exact oX rfl fun hx hl=>Z2 rfl (hl.env 4 4 _ rfl rfl) hx
  exact oX rfl fun hx hl=>ZH Zig rfl (hl.env 1 1 _ rfl rfl) hx
  exact oX rfl fun hx hl=>Z2 rfl (hl.env 0 0 _ rfl rfl) hx
  exact oX rfl fun hx hl=>Z2 rfl (hl.env 4 4 _ rfl rfl) hx
  exact fun _ O' hO'=>⟨rfl,fun _ _ _ hx hl _=>YP (i:=(k:Int)) Zo rfl (Zh hx (hO' _ (mo 0 rfl))) (hl.D 3 15 rfl rfl) (hl.D 4 16 rfl rfl) nnn (by rw[List.length_map];exact Int.ofNat_lt.2 sfz) hx⟩
  exact fun _ O' hO'=>⟨rfl,fun _ _ _ hx hl _=>ZdC Qg rfl (Zh hx (hO' _ (mo 0 rfl))) (by rw[List.length_map];exact Nat.lt_of_le_of_lt nzl sfz) (hl.D 5 17 rfl rfl) hx⟩
  exact fun _ O' hO'=>⟨rfl,fun _ _ _ hx hl _=>Zl7 (i:=k) (j:=2) Xg rfl (Zh hx (hO' _ (mo 0 rfl))) (hl.D 6 18 rfl rfl) (Qq (xs:=l) (k:=k) sfz) rfl hx⟩
  exact oY rfl fun hk hx hl=>ZaX ((ZeS hJ ((ge l k).text) (b.2 _ (Zu oz))).rr) Zfr rfl (Za2 (hl.D 2 14 rfl rfl)) (Zq hS _ hk hx) (hx.1) Zv (Za (hl.D 7 19 rfl rfl) Zg) (jo hJ hx)
  exact fun _ O' hO'=>⟨rfl,fun _ _ _ hx hl _=>YP (i:=(k:Int)) Zo rfl (Zh hx (hO' _ (mo 0 rfl))) (hl.D 0 12 rfl rfl) (hl.D 1 13 rfl rfl) nnn (by rw[List.length_map];exact Int.ofNat_lt.2 sfz) hx⟩
  exact fun _ O' hO'=>⟨rfl,fun _ _ _ hx hl _=>ZdC Qg rfl (Zh hx (hO' _ (mo 0 rfl))) (by rw[List.length_map];exact Nat.lt_of_le_of_lt nzl sfz) (hl.D 9 21 rfl rfl) hx⟩
  exact Zl rfl
  case e5_1_0=>exact⟨_,rfl,rfl,rfl,rfl,fun g _ w hk hx hl _=>Zx (Zpz (i:=k) (j:=2) hJ hJ0 ZbE rfl hk hx (hl.D 10 22 rfl rfl) (hl.D 8 20 rfl rfl) (Qq (xs:=l) (k:=k) sfz) rfl) fun v w' hp=>⟨g,rfl,fun _ _=>rfl,fun e=>(by cases e),hp⟩⟩
  clear a w h
  intro _
  dsimp only[List.map]
  refine nx (Yo tb hJ [0,1,2,1001] [.int (k+1:Nat),_] [0] U4 rfl ⟨Z7,trivial⟩ ?_)
  exact YE (k+1) [0,1,2,3] (show((k+1)≤l.length)from by omega)
 ·
  try simp at hb1
  refine Zs (nx (qso tb hJ [1001] U2 [_] ?_))
  exact tw (fun h=>ZO hS h (m:=0) (s:=3) rfl) (tRo 0 (hE:=rfl))
theorem Zib (xs:List BA) (b:xs.length*16≤140737488351232):Fn prog J 42 [.rd (Zf xs)] (.rd (Zf xs)):=Zpo (Zel hJ xs b)
theorem Zic (xs:List Pr) (b:xs.length*32≤140737488351232):Fn prog J 62 [.rd (YV xs)] (.rd (YV xs)):=Zpo (ZkL hJ xs b)
theorem Zrz (d:Db) (b:okCp d):Fn prog J 41 [.agg (dbC d)] (.agg (dbC d)):=by
 refine fE Tryz.func41 fun S w0 hS hJ0=>?_
 refine tw ZR ?_
 obtain⟨u,hu⟩:∃ v,v=Value.slice none 0 0:=⟨_,rfl⟩
 refine tsq (sy (.ptr (dbC d)) (fun h=>ZdD rfl (h.get 0 rfl) (Zq hS _ h.keep h.x _ nlr) (jo hJ h.x)) ?_)
 refine ZT Zcz hJ rfl rfl rfl (lb rfl) fun b1=>?_
 refine seK [0,1] U2 rfl (nx (tsq ?_))
 refine ZT Znc hJ rfl rfl rfl (lb rfl) fun b2=>?_
 refine Z5 (b:=b2) (off:=0) (es:=[_]) hJ hJ0 ZnC rfl rfl rfl (lb rfl) rfl (fun a w h=>⟨(h.get 0 rfl),(ZeP 59)⟩) ?_
 refine kw (fun h=>YJ hS h (m:=0) (s:=3) rfl) (seK [0,1,2] U3 rfl ?_)
 refine nx (ZG tb hJ [0,1,2,1001] [.fn 60 [.ptr [.lit (.func (.func 59) #[] #[])]],_] [0] U4 rfl ⟨fun _ _ _ hx hl _=>XB (caps:=[(.tmp 3)]) rfl (Za (hl.env 0 3 _ rfl rfl) Zg) hx,trivial⟩ ?_)
 refine Ze (fun a w h=>YF (γ:=Nat) (fun ix'=>([.lit (.func (.func 59) #[] #[]),.ptr (dbC d),.rd (Zf d.consts),.rd (Zf d.consts),.lit (.func (.func 59) #[] #[]),.ptr [Zf d.vars,Zb9 d.frames],.rd (Zf d.vars),.rd (Zf d.vars),.agg [Zf d.consts,Zf d.vars,.lit (.slice none 0 0)],.any,.any]:List AV).getD ix' .any) (fun _=>true) [(3,fun _=>.ptr [.lit (.func (.func 59) #[] #[])]),(2,fun _=>.at b1 0),(1,fun _=>.ptr (dbC d)),(4,fun _=>.fn 60 [.ptr [.lit (.func (.func 59) #[] #[])]]),(5,fun g=>.at g 0)] (fun j' g=>match j' with | 0=>[OB.var b1 [Zf ([]:List BA),Zf ([]:List BA),Zb9 ([]:List Fr)]] | 1=>[OB.var g [Zf ([]:List BA),Zf ([]:List BA),Zb9 ([]:List Fr)],OB.var b1 [Zf ([]:List BA),Zf ([]:List BA),Zb9 ([]:List Fr)]] | _=>[OB.var g [Zf d.consts,Zf d.vars,.lit (.slice none 0 0)],OB.var b1 [Zf ([]:List BA),Zf ([]:List BA),Zb9 ([]:List Fr)]]) (fun k' g=>match k' with | 0=>(.pointer (some ⟨g,0,none⟩)) | _=>undef) [9,10] 2 0 (fun _=>rfl) h hJ Yr rfl rfl rfl rfl rfl rfl hsb ⟨?_,?_,?_,?_,?_,?_,?_,?_,?_,?_,?_,trivial⟩ ⟨?e3_1_0,?e3_1_1,trivial⟩ ⟨.old 0 3 _,.old 1 2 _,.old 2 1 _,.old 3 4 _,.eff 0 9 5 (fun g=>(.pointer (some ⟨g,0,none⟩))) rfl rfl (fun _=>rfl) (fun _=>True.intro),trivial⟩ ?n3_1)
 exact oX rfl fun hx hl=>ZH Zig rfl (hl.env 0 3 _ rfl rfl) hx
 exact oX rfl fun hx hl=>ZN ZmD rfl (hl.env 2 1 _ rfl rfl) hx
 exact oX rfl fun hx hl=>ZH Xg rfl (hl.D 1 10 rfl rfl) hx
 exact oY rfl fun hk hx hl=>ZaX ((ZeS hJ d.consts (by first | exact b.1 | exact b.2.1 | exact h9.2.2.1 | exact h9.2.2.2.1)).rr) Zfr rfl (Za2 (hl.D 0 9 rfl rfl)) (Zq hS _ hk hx) (hx.1) Zv (Za (hl.D 2 11 rfl rfl) Zg) (jo hJ hx)
 exact oX rfl fun hx hl=>ZH Zig rfl (hl.env 0 3 _ rfl rfl) hx
 exact oX rfl fun hx hl=>ZN ZdN rfl (hl.env 2 1 _ rfl rfl) hx
 exact oX rfl fun hx hl=>ZH Xg rfl (hl.D 5 14 rfl rfl) hx
 exact oY rfl fun hk hx hl=>ZaX ((ZeS hJ d.vars (by first | exact b.1 | exact b.2.1 | exact h9.2.2.1 | exact h9.2.2.2.1)).rr) Zfr rfl (Za2 (hl.D 4 13 rfl rfl)) (Zq hS _ hk hx) (hx.1) Zv (Za (hl.D 6 15 rfl rfl) Zg) (jo hJ hx)
 exact fun _ O' _=>⟨rfl,fun a _ _ hx hl _=>Yh (ps:=[(0,a.eval (.tmp 12)),(1,a.eval (.tmp 16))]) (us:=[a.eval (.tmp 12),a.eval (.tmp 16),.slice none 0 0]) Zql rfl yz (Zcx (lb rfl) (Rel.oneC (hl.D 3 12 rfl rfl)) (Zcx (lb rfl) (Rel.oneC (hl.D 7 16 rfl rfl)) ZcJ)) rfl (Zi (hl.D 3 12 rfl rfl) (Zi (hl.D 7 16 rfl rfl) (Ys (.lit _ True.intro) ZJ))) hx⟩
 exact Zl rfl
 exact Zl rfl
 case e3_1_0=>exact⟨_,rfl,rfl,rfl,rfl,fun g _ w hk hx _ _=>Zx (ZaQ Zcz hJ rfl hk hx) fun v w' ⟨g',hv,hp⟩=>⟨g',rfl,fun k' hk'=>absurd hk' (Nat.not_lt_zero _),fun _=>hv,hp⟩⟩
 case e3_1_1=>exact⟨_,rfl,rfl,rfl,rfl,fun g _ w hk hx hl hs=>(by obtain⟨us2,hv2,hr3⟩:=Q3 (hl.D 8 17 rfl rfl);exact Zx (Xl (S':=S) (off:=0) (news:=U3) (es:=U3) (us:=us2) hJ hJ0 ZeL rfl hk hx (Zcs (hs 0 9 _ 5 oz rfl rfl rfl)) (by rw[hv2];rfl) hr3 (lb rfl) rfl) fun v w' hp=>⟨g,rfl,fun _ _=>rfl,fun e=>(by cases e),hp⟩)⟩
 clear a w h
 intro b3
 dsimp only[List.map]
 refine kw (ob0 (show OB.var b3 [Zf d.consts,Zf d.vars,.lit (.slice none 0 0)]=OB.var b3 [Zf d.consts,Zf d.vars,.lit u]from by rw[hu])) (kw (YS 59 8 hJ) ?_)
 refine kw (ob0 (show OB.row (.slice none 0 0) 59 8 []=OB.row u 59 8 (([]:List Fr).map frC)from by rw[hu];rfl)) (nx (Ze (ZG tb hJ [0,1,3,4,1001,1002,1003] [_,_,.int (d.frames.length:Nat),_] [2] U7 rfl ⟨Z3 XS,trivial⟩ ?_)))
 refine ln 4 fun hl1=>?_
 refine Zc (lpo (ι:=Nat×(List Fr)×Value) (fun(k,us,_)=>(k≤d.frames.length)∧(us=d.frames.take k)) (fun(_,us,vs)=>[OB.row vs 59 8 (us.map frC),OB.var b3 [Zf d.consts,Zf d.vars,.lit vs],OB.var b1 [Zf ([]:List BA),Zf ([]:List BA),Zb9 ([]:List Fr)]]) (fun(k,_,_)=>[(21,.int (k:Nat))]) (fun(k,_,_)=>d.frames.length-k) (r7 []) U6 (0,[],u) ⟨nzl,rfl⟩ ?_)
 rintro⟨k,us,vs⟩ ⟨f1_1,f1_2⟩
 refine qso tb hJ (r7 [1000]) [_] U8 ?_
 refine cjS 7 (fun hb1=>?_) fun hb1=>?_
 ·
  try simp at hb1
  have h9:=b.2.2.2 _ (Zu (xs:=d.frames) (k:=k) oz)
  have h7:us.length≤100000:=by rw[f1_2,List.length_take];have:=b.2.2.1;omega
  refine Zb (nx (Ze (Zc (tsq (sy (.ptr (frC (ge d.frames k))) (fun h=>ZQ (i:=(k:Int)) ZV rfl (h.get 4 rfl) (h.get 6 rfl) nnn (Z0 (xs:=d.frames) (k:=k) sfz) rfl h.x) ?_)))))
  refine snK 1 tb rfl (ZT Zd6 hJ rfl rfl rfl (lb rfl) fun b4=>?_)
  refine ZB (b:=b4) (off:=0) (es:=U8) (news:=U8) hJ hJ0 ZnD rfl rfl rfl (lb rfl) rfl (fun a w h=>⟨(h.get 0 rfl),(h.get 1 rfl)⟩) ?_
  refine seK [0,3,4,5,6,7,8,9] U8 rfl (nx (Ze (fun a w h=>YF (γ:=Unit) (fun ix'=>([.fn 60 [.ptr [.lit (.func (.func 59) #[] #[])]],.at b4 2,.rd (Y1 ((ge d.frames k).hyps)),.rd (Y1 ((ge d.frames k).hyps)),.fn 60 [.ptr [.lit (.func (.func 59) #[] #[])]],.at b4 5,.rd (Y1 ((ge d.frames k).dummies)),.rd (Y1 ((ge d.frames k).dummies)),.lit (.func (.func 59) #[] #[]),.at b4 4,.rd (Zf ((ge d.frames k).text)),.rd (Zf ((ge d.frames k).text)),.lit (.func (.func 59) #[] #[]),.at b4 7,.rd (Zf ((ge d.frames k).proof)),.rd (Zf ((ge d.frames k).proof)),.at b4 2,.any,.at b4 5,.any,.at b4 4,.any,.at b4 7,.any]:List AV).getD ix' .any) (fun _=>true) [(7,fun _=>.at b4 0),(3,fun _=>.ptr [.lit (.func (.func 59) #[] #[])]),(2,fun _=>.at b1 0),(4,fun _=>.fn 60 [.ptr [.lit (.func (.func 59) #[] #[])]]),(5,fun _=>.at b3 0),(19,fun _=>.rd (Zb9 d.frames)),(20,fun _=>.int (d.frames.length:Nat)),(21,fun _=>.int (k:Nat))] (fun _ _=>[OB.var b4 (frC (ge d.frames k)),OB.row vs 59 8 (us.map frC),OB.var b3 [Zf d.consts,Zf d.vars,.lit vs],OB.var b1 [Zf ([]:List BA),Zf ([]:List BA),Zb9 ([]:List Fr)]]) (fun _ _=>undef) [17,19,21,23] 4 () (fun _=>rfl) h hJ Yr rfl rfl rfl rfl rfl rfl hsb ⟨?_,?_,?_,?_,?_,?_,?_,?_,?_,?_,?_,?_,?_,?_,?_,?_,?_,?_,?_,?_,?_,?_,?_,?_,trivial⟩ ⟨?e7_2_0,?e7_2_1,?e7_2_2,?e7_2_3,trivial⟩ ⟨.old 0 7 _,.old 1 3 _,.old 2 2 _,.old 3 4 _,.old 4 5 _,.old 5 19 _,.old 6 20 _,.old 7 21 _,trivial⟩ ?n7_2)))
  exact oX rfl fun hx hl=>Z2 rfl (hl.env 3 4 _ rfl rfl) hx
  exact oX rfl fun hx hl=>Zr Qh rfl (hl.env 0 7 _ rfl rfl) hx
  exact fun _ O' hO'=>⟨rfl,fun _ _ _ hx hl _=>Zw Zcu rfl (Zh hx (hO' _ (mo 0 rfl))) (hl.D 1 26 rfl rfl) rfl hx⟩
  exact oY rfl fun hk hx hl=>ZaX ((Zt3 hJ ((ge d.frames k).hyps) (by first | exact⟨h9.1,h9.2.2.2.2.2.2.1⟩ | exact⟨h9.2.1,h9.2.2.2.2.2.2.2⟩)).rr) ZpW rfl (hl.D 0 25 rfl rfl) (Zq hS _ hk hx) (hx.1) Zv (Za (hl.D 2 27 rfl rfl) Zg) (jo hJ hx)
  exact oX rfl fun hx hl=>Z2 rfl (hl.env 3 4 _ rfl rfl) hx
  exact oX rfl fun hx hl=>Zr ZdK rfl (hl.env 0 7 _ rfl rfl) hx
  exact fun _ O' hO'=>⟨rfl,fun _ _ _ hx hl _=>Zw Zcu rfl (Zh hx (hO' _ (mo 0 rfl))) (hl.D 5 30 rfl rfl) rfl hx⟩
  exact oY rfl fun hk hx hl=>ZaX ((Zt3 hJ ((ge d.frames k).dummies) (by first | exact⟨h9.1,h9.2.2.2.2.2.2.1⟩ | exact⟨h9.2.1,h9.2.2.2.2.2.2.2⟩)).rr) ZpW rfl (hl.D 4 29 rfl rfl) (Zq hS _ hk hx) (hx.1) Zv (Za (hl.D 6 31 rfl rfl) Zg) (jo hJ hx)
  exact oX rfl fun hx hl=>ZH Zig rfl (hl.env 1 3 _ rfl rfl) hx
  exact oX rfl fun hx hl=>Zr Zcc rfl (hl.env 0 7 _ rfl rfl) hx
  exact fun _ O' hO'=>⟨rfl,fun _ _ _ hx hl _=>Zw Xg rfl (Zh hx (hO' _ (mo 0 rfl))) (hl.D 9 34 rfl rfl) rfl hx⟩
  exact oY rfl fun hk hx hl=>ZaX ((ZeS hJ ((ge d.frames k).text) (by first | exact b.1 | exact b.2.1 | exact h9.2.2.1 | exact h9.2.2.2.1)).rr) Zfr rfl (Za2 (hl.D 8 33 rfl rfl)) (Zq hS _ hk hx) (hx.1) Zv (Za (hl.D 10 35 rfl rfl) Zg) (jo hJ hx)
  exact oX rfl fun hx hl=>ZH Zig rfl (hl.env 1 3 _ rfl rfl) hx
  exact oX rfl fun hx hl=>Zr ZdJ rfl (hl.env 0 7 _ rfl rfl) hx
  exact fun _ O' hO'=>⟨rfl,fun _ _ _ hx hl _=>Zw Xg rfl (Zh hx (hO' _ (mo 0 rfl))) (hl.D 13 38 rfl rfl) rfl hx⟩
  exact oY rfl fun hk hx hl=>ZaX ((ZeS hJ ((ge d.frames k).proof) (by first | exact b.1 | exact b.2.1 | exact h9.2.2.1 | exact h9.2.2.2.1)).rr) Zfr rfl (Za2 (hl.D 12 37 rfl rfl)) (Zq hS _ hk hx) (hx.1) Zv (Za (hl.D 14 39 rfl rfl) Zg) (jo hJ hx)
  exact oX rfl fun hx hl=>Zr Qh rfl (hl.env 0 7 _ rfl rfl) hx
  exact Zl rfl
  exact oX rfl fun hx hl=>Zr ZdK rfl (hl.env 0 7 _ rfl rfl) hx
  exact Zl rfl
  exact oX rfl fun hx hl=>Zr Zcc rfl (hl.env 0 7 _ rfl rfl) hx
  exact Zl rfl
  exact oX rfl fun hx hl=>Zr ZdJ rfl (hl.env 0 7 _ rfl rfl) hx
  exact Zl rfl
  case e7_2_0=>exact⟨_,rfl,rfl,rfl,rfl,fun g _ w hk hx hl _=>Zx (Zcg (off:=2) (es:=U8) (c:=Y1 ((ge d.frames k).hyps)) hJ hJ0 ZeK rfl hk hx (hl.D 16 41 rfl rfl) (hl.D 3 28 rfl rfl) (lb rfl) rfl) fun v w' hp=>⟨g,rfl,fun _ _=>rfl,fun e=>(by cases e),hp⟩⟩
  case e7_2_1=>exact⟨_,rfl,rfl,rfl,rfl,fun g _ w hk hx hl _=>Zx (Zcg (off:=5) (es:=U8) (c:=Y1 ((ge d.frames k).dummies)) hJ hJ0 ZeK rfl hk hx (hl.D 18 42 rfl rfl) (hl.D 7 32 rfl rfl) (lb rfl) rfl) fun v w' hp=>⟨g,rfl,fun _ _=>rfl,fun e=>(by cases e),hp⟩⟩
  case e7_2_2=>exact⟨_,rfl,rfl,rfl,rfl,fun g _ w hk hx hl _=>Zx (Zcg (off:=4) (es:=U8) (c:=Zf ((ge d.frames k).text)) hJ hJ0 ZbE rfl hk hx (hl.D 20 43 rfl rfl) (hl.D 11 36 rfl rfl) (lb rfl) rfl) fun v w' hp=>⟨g,rfl,fun _ _=>rfl,fun e=>(by cases e),hp⟩⟩
  case e7_2_3=>exact⟨_,rfl,rfl,rfl,rfl,fun g _ w hk hx hl _=>Zx (Zcg (off:=7) (es:=U8) (c:=Zf ((ge d.frames k).proof)) hJ hJ0 ZbE rfl hk hx (hl.D 22 44 rfl rfl) (hl.D 15 40 rfl rfl) (lb rfl) rfl) fun v w' hp=>⟨g,rfl,fun _ _=>rfl,fun e=>(by cases e),hp⟩⟩
  clear a w h
  intro _
  dsimp only[List.map]
  refine nx (Ze (fun a w h=>YF (γ:=Unit) (fun ix'=>([.at b4 3,.rd (YV ((ge d.frames k).apart)),.rd (YV ((ge d.frames k).apart)),.at b4 6,.rd (YV ((ge d.frames k).wide)),.rd (YV ((ge d.frames k).wide)),.at b4 3,.any,.at b4 6,.any]:List AV).getD ix' .any) (fun _=>true) [(7,fun _=>.at b4 0),(3,fun _=>.ptr [.lit (.func (.func 59) #[] #[])]),(2,fun _=>.at b1 0),(4,fun _=>.fn 60 [.ptr [.lit (.func (.func 59) #[] #[])]]),(5,fun _=>.at b3 0),(19,fun _=>.rd (Zb9 d.frames)),(20,fun _=>.int (d.frames.length:Nat)),(21,fun _=>.int (k:Nat))] (fun _ _=>[OB.var b4 (frC (ge d.frames k)),OB.row vs 59 8 (us.map frC),OB.var b3 [Zf d.consts,Zf d.vars,.lit vs],OB.var b1 [Zf ([]:List BA),Zf ([]:List BA),Zb9 ([]:List Fr)]]) (fun _ _=>undef) [7,9] 2 () (fun _=>rfl) h hJ Yr rfl rfl rfl rfl rfl rfl hsb ⟨?_,?_,?_,?_,?_,?_,?_,?_,?_,?_,trivial⟩ ⟨?e8_3_0,?e8_3_1,trivial⟩ ⟨.old 0 7 _,.old 1 3 _,.old 2 2 _,.old 3 4 _,.old 4 5 _,.old 5 19 _,.old 6 20 _,.old 7 21 _,trivial⟩ ?n8_3))
  exact oX rfl fun hx hl=>Zr Zcd rfl (hl.env 0 7 _ rfl rfl) hx
  exact fun _ O' hO'=>⟨rfl,fun _ _ _ hx hl _=>Zw Zga rfl (Zh hx (hO' _ (mo 0 rfl))) (hl.D 0 45 rfl rfl) rfl hx⟩
  exact oY rfl fun hk hx hl=>ZaY (Zic hJ ((ge d.frames k).apart) (by have h8:=h9.2.2.2.2.1;have h7:=h9.2.2.2.2.2.1;omega)) ZjS rfl (Zq hS _ hk hx) (hx.1) (Za (hl.D 1 46 rfl rfl) Zg) (jo hJ hx)
  exact oX rfl fun hx hl=>Zr Zcb rfl (hl.env 0 7 _ rfl rfl) hx
  exact fun _ O' hO'=>⟨rfl,fun _ _ _ hx hl _=>Zw Zga rfl (Zh hx (hO' _ (mo 0 rfl))) (hl.D 3 48 rfl rfl) rfl hx⟩
  exact oY rfl fun hk hx hl=>ZaY (Zic hJ ((ge d.frames k).wide) (by have h8:=h9.2.2.2.2.1;have h7:=h9.2.2.2.2.2.1;omega)) ZjS rfl (Zq hS _ hk hx) (hx.1) (Za (hl.D 4 49 rfl rfl) Zg) (jo hJ hx)
  exact oX rfl fun hx hl=>Zr Zcd rfl (hl.env 0 7 _ rfl rfl) hx
  exact Zl rfl
  exact oX rfl fun hx hl=>Zr Zcb rfl (hl.env 0 7 _ rfl rfl) hx
  exact Zl rfl
  case e8_3_0=>exact⟨_,rfl,rfl,rfl,rfl,fun g _ w hk hx hl _=>Zx (Zcg (off:=3) (es:=U8) (c:=YV ((ge d.frames k).apart)) hJ hJ0 ZeJ rfl hk hx (hl.D 6 51 rfl rfl) (hl.D 2 47 rfl rfl) (lb rfl) rfl) fun v w' hp=>⟨g,rfl,fun _ _=>rfl,fun e=>(by cases e),hp⟩⟩
  case e8_3_1=>exact⟨_,rfl,rfl,rfl,rfl,fun g _ w hk hx hl _=>Zx (Zcg (off:=6) (es:=U8) (c:=YV ((ge d.frames k).wide)) hJ hJ0 ZeJ rfl hk hx (hl.D 8 52 rfl rfl) (hl.D 5 50 rfl rfl) (lb rfl) rfl) fun v w' hp=>⟨g,rfl,fun _ _=>rfl,fun e=>(by cases e),hp⟩⟩
  clear a w h
  intro _
  dsimp only[List.map]
  refine nx (ZE (sq (.at b3 2) rfl rfl (lb rfl) (fun _ _ h=>Zr Qi rfl (h.get 4 rfl) h.x) ?_))
  refine sy (.lit vs) (fun h=>Zw ZeX rfl (Zh h.x (mo 2 rfl)) (h.get 0 rfl) rfl h.x) ?_
  refine sy (.agg (frC (ge d.frames k))) (fun h=>Yz (ds:=[lS ((ge d.frames k).label),lB ((ge d.frames k).thm),Y1 ((ge d.frames k).hyps),YV ((ge d.frames k).apart),Zf ((ge d.frames k).text),Y1 ((ge d.frames k).dummies),YV ((ge d.frames k).wide),Zf ((ge d.frames k).proof)]) Zev rfl (Zh h.x (mo 0 rfl)) (h.get 2 rfl) rfl rfl h.x) ?_
  refine sq (.rd (Zb9 ([(ge d.frames k)]))) rfl rfl (lb rfl) (fun a _ h=>ZhQ (z:= #[.string ⟨#[]⟩,.bool false,.slice none 0 0,.slice none 0 0,.slice none 0 0,.slice none 0 0,.slice none 0 0,.slice none 0 0]) (cs:=[frC (ge d.frames k)]) (vs:=[a.eval (.tmp 55)]) ZV (fun w=>by kernel_rfl) rfl yz (Za (h.get 0 rfl) Zg) (of_decide_eq_true rfl) rfl dz dz dz (Zq hS _ h.keep h.x _ nlr) (jo hJ h.x)) ?_
  refine kw pm1 (ZS (f:=frC) (m:=2) (s:=54) us ([(ge d.frames k)]) (fun _=>rfl) Zqq hJ hJ0 rfl rfl rfl (lb rfl) rfl rfl (fun a w h=>(h.get 0 rfl)) sfz sfz fun v5=>?_)
  refine sy (.at b3 2) (fun h=>Zr Qi rfl (h.get 9 rfl) h.x) ?_
  refine kw pm2 (Z5 (b:=b3) (off:=2) (es:=U3) hJ hJ0 ZnF rfl rfl rfl (lb rfl) rfl (fun a w h=>⟨(h.get 0 rfl),(h.get 1 rfl)⟩) ?_)
  refine seK [2,7,8,9,10,11,12,13] U8 rfl (nx (ln 0 fun hl2=>?_))
  refine Yo tb hJ [1,2,3,4,5,6,1001] [.int (k+1:Nat),_] [0] U7 rfl ⟨Z7,trivial⟩ ?_
  refine kw pm2 (kw ZM ?_)
  refine kw pm2 (kw pm1 ?_)
  exact kw pm2 (YE ((k+1),(us++[ge d.frames k]),v5) (r7 []) ⟨oz,by rw[f1_2];exact(ZZ oz).symm⟩)
 ·
  try simp at hb1
  have e1:us=d.frames:=by rw[f1_2,ZD oz]
  refine Zs (nx (tw pm1 (tw pm1 ?_)))
  refine tw (fun h=>ZcW (j:=2) (cs':=[Zf d.consts,Zf d.vars,Zb9 us]) hS rfl rfl h) (tsq ?_)
  refine sy (.agg (dbC (⟨d.consts,d.vars,us⟩:Db))) (fun h=>Yz (ds:=[Zf d.consts,Zf d.vars,Zb9 us]) Zdr rfl (Zh h.x (mo 0 rfl)) (h.get 3 rfl) rfl rfl h.x) ?_
  refine kw pm1 (ZB (b:=b1) (off:=0) (es:=U3) (news:=U3) hJ hJ0 ZeL rfl rfl rfl (lb rfl) rfl (fun a w h=>⟨(h.get 2 rfl),(h.get 0 rfl)⟩) ?_)
  exact seK [2] [_] rfl (nx (ZA (fun a w h=>Xx (m:=0) rfl Zdr h rfl rfl (show(_:List CD)=[Zf d.consts,Zf d.vars,Zb9 d.frames]from by(rw[e1])<;>rfl))))
end
theorem ZwG:Zk prog 41:=Zp Tryz.func41 rfl rfl
theorem Zbf:prog.underlying 42=some (.pointer (prog.pointee 42)):=by kernel_rfl
section
variable {J:WP} (hJ:Stab J)
include hJ
theorem p_NewE (d:Db) (z:Int) (t:List BA) (hw:∀ f∈d.frames,f.wide.length*32≤140737488351232) (hG:Q2 J) (ha:¬ YX d z=0):Fn prog J 18 [.agg (dbC d),.int z,.rd (Zf t)] (.tup [.rd (.lit (.pointer none)),.int (YX d z)]):=by
 refine fE Tryz.func18 fun S w0 hS hJ0=>?_
 refine tw ZR (ln 2 fun hl1=>?_)
 refine ZG tb hJ [1,2,1000] [.ptr (dbC d),_,_] [0] U3 rfl ⟨iBo hS hJ,trivial⟩ ?_
 refine Ze (ZG tb hJ [0,1,2,1003] [_,_,.int (YX d z),_] [2] U4 rfl ⟨iFo hS hJ (ZeU hJ d z (by exact hw) (by exact hG)) ZjU,trivial⟩ ?_)
 refine qso tb hJ [0,1,2,3,1001] U2 U5 ?_
 refine cj 4 (fun hb1=>?_) fun hb1=>?_
 ·
  try simp at hb1
  refine qso tb hJ [1001,1002] U3 U2 ?_
  exact ZA (fun a w h=>Y0 (m:=0) (k:=1) rfl (ZW h) rfl rfl rfl rfl)
 ·
  try simp at hb1
  exact False.elim (by simp_all)
theorem p_New (d:Db) (n:Nat) (t:List BA) (hw:∀ f∈d.frames,f.wide.length*32≤140737488351232) (hG:Q2 J) (ha:YX d (n:Int)=0) (hcp:okCp d) (hl:t.length≤100000) (hs:ZaV t≤1000000000):FnM (ι:=Nat×Value×Value×Value) prog J 18 [] [.agg (dbC d),.int (n:Nat),.rd (Zf t)] [] (fun i'=>.tup [.at (i'.1) 0,.int (0:Int)]) (fun i'=>[OB.var (i'.1) (mkC d (ge d.frames n) [.lit (i'.2.1),Qv (Yi d n t),.lit (i'.2.2.1),.lit (i'.2.2.2),lI (((XK d n t).n:Nat):Int),lB ((XK d n t).kn),lI ((XK d n t).v.1),lI ((XK d n t).v.2)]),OB.row i'.2.2.1 22 1 (((XK d n t).sk).map Zn),OB.row i'.2.2.2 22 1 (((XK d n t).tg).map Zn)]):=by
 refine fEM Tryz.func18 fun S w0 R hS hJ0 hH=>?_
 refine Yq (B:=So J S w0 21 (R) [(0,.agg (dbC d)),(1,.int (n:Nat)),(2,.rd (Zf t))]) ?_ fun a w h=>h
 refine ln 2 fun hl1=>?_
 obtain⟨hck,hz0,hz1⟩:=Zdq ha
 have hn:n<d.frames.length:=by omega
 refine ZG tb hJ [1,2,1000] [.ptr (dbC d),_,_] [0] U3 rfl ⟨iBo hS hJ,trivial⟩ ?_
 refine Ze (ZG tb hJ [0,1,2,1003] [_,_,.int (YX d (n:Int)),_] [2] U4 rfl ⟨iFo hS hJ (ZeU hJ d (n:Int) (by exact hw) (by exact hG)) ZjU,trivial⟩ ?_)
 refine qso tb hJ [0,1,2,3,1001] U2 U5 ?_
 refine cj 4 (fun hb1=>?_) fun hb1=>?_
 ·
  try simp at hb1
  exact False.elim (by simp_all)
 ·
  try simp at hb1
  refine Zb (nx (tsq (snK 1 tb rfl (sy (.agg (dbC d)) (fun h=>ZaY (Zrz hJ d (by exact hcp)) ZwG rfl (Zq hS _ h.keep h.x) (h.x.1) (Za (h.get 0 rfl) Zg) (jo hJ h.x)) ?_))))
  refine snK 2 tb rfl (sy (.rd (Zf t)) (fun h=>ZaY (Zib hJ t oz) Zft rfl (Zq hS _ h.keep h.x) (h.x.1) (Za (h.get 0 rfl) Zg) (jo hJ h.x)) ?_)
  refine Xv (O:=[]) (R:=(R)) (ZhY hJ d n t (by exact hn) (by exact ZpG hck) (by exact fun h hh=>((XJ hck _ (Zu hn)).2.2 h hh).2) (by exact(XJ hck _ (Zu hn)).1.1) (by exact hl) (by exact hs)) Zp2 rfl rfl rfl (lb rfl) hS hJ0 Zv (fun a w h=>(Za (h.get 3 rfl) (Za (h.get 2 rfl) (Za (h.get 0 rfl) Zg)))) fun z1=>?_
  refine snK 2 tb rfl (seK [0,1] U2 rfl ?_)
  exact nx (ZA (fun a w h=>ZbM  (m:=1) (k:=0) (z1.1,z1.2.1,z1.2.2.1,z1.2.2.2) rfl h rfl rfl (ZtK rfl rfl)))
theorem p_Step (b:Nat) (d:Db) (f:Fr) (nm:Value) (xs:List Itm) (vs vt:Value) (n:Nat) (kn:Bool) (y1 y2:Int) (sk:List (List BA)) (tg:List (List BA)) (hi:kn=false→n<xs.length∧okI d.frames.length tg.length (ge xs n)) (hsk:∀ t∈sk,1≤t.length∧t.length≤2000) (hskl:sk.length≤2000) (htg:tg.length≤2000) (hn:n≤2000) (hfr:∀ g∈d.frames,okF g) (hwd:f.wide.length*32≤140737488351232):FnM (ι:=Value×Value) prog J 19 [] [.at b 0] [OB.var b (mkM d f nm xs vs vt n kn y1 y2),OB.row vs 22 1 (sk.map Zn),OB.row vt 22 1 (tg.map Zn)] (fun _=>.bool ((ZI d.frames d.vars f xs ⟨sk,tg,n,kn,(y1,y2),false⟩).did)) (fun i'=>[OB.var b (mkC d f [.lit nm,Qv xs,.lit (i'.1),.lit (i'.2),lI (((ZI d.frames d.vars f xs ⟨sk,tg,n,kn,(y1,y2),false⟩).n:Nat):Int),lB ((ZI d.frames d.vars f xs ⟨sk,tg,n,kn,(y1,y2),false⟩).kn),lI ((ZI d.frames d.vars f xs ⟨sk,tg,n,kn,(y1,y2),false⟩).v.1),lI ((ZI d.frames d.vars f xs ⟨sk,tg,n,kn,(y1,y2),false⟩).v.2)]),OB.row i'.1 22 1 (((ZI d.frames d.vars f xs ⟨sk,tg,n,kn,(y1,y2),false⟩).sk).map Zn),OB.row i'.2 22 1 (((ZI d.frames d.vars f xs ⟨sk,tg,n,kn,(y1,y2),false⟩).tg).map Zn)]):=by
 refine fEM Tryz.func19 fun S w0 R hS hJ0 hH=>?_
 refine Yq (B:=So J S w0 9 (OB.var b (mkM d f nm xs vs vt n kn y1 y2)::OB.row vs 22 1 (sk.map Zn)::OB.row vt 22 1 (tg.map Zn)::R) [(0,.at b 0)]) ?_ fun a w h=>h
 refine qso tb hJ [0] [_] [_] ?_
 refine tsq (snK 1 tb rfl (sy (.bool true) (fun h=>Zu2 Zbf rfl (h.get 0 rfl) h.x) ?_))
 refine snK 1 tb rfl (sq_on rfl rfl rfl 0 rfl ?_)
 refine snK 1 tb rfl (sq_on rfl rfl rfl 1 rfl ?_)
 refine Xv (O:=[OB.var b (mkM d f nm xs vs vt n kn y1 y2),OB.row vs 22 1 (sk.map Zn),OB.row vt 22 1 (tg.map Zn)]) (R:=(R)) (Zt0 hJ b d f nm xs vs vt n kn y1 y2 sk tg (by exact hi) (by exact hsk) (by exact hskl) (by exact htg) (by exact hn) (by exact hfr) (by exact hwd)) Zp1 rfl rfl rfl (lb rfl) hS hJ0 Zv (fun a w h=>(Za (h.get 0 rfl) Zg)) fun z1=>?_
 refine sy (.bool (true&& ((ZI d.frames d.vars f xs ⟨sk,tg,n,kn,(y1,y2),false⟩).did))) (fun h=>Zu5 rfl (h.get 2 rfl) (fun hg=>(h.get 0 rfl)) h.x) ?_
 refine snK 1 tb rfl (seK [0] [_] rfl ?_)
 exact nx (ZA (fun a w h=>Yg  (m:=0) (z1.1,z1.2) rfl h rfl (eB yz)))
theorem p_At (b:Nat) (d:Db) (f:Fr) (nm:Value) (xs:List Itm) (vs vt:Value) (n:Nat) (kn:Bool) (y1 y2:Int)  :FnR prog J 21 [OB.var b (mkM d f nm xs vs vt n kn y1 y2)] [.at b 0] (.int (n:Nat)):=by
 refine fER Tryz.func21 fun S w0 hS hJ0 hH=>?_
 refine tw ZR (qso tb hJ [0] [_] [_] ?_)
 refine Ze (ZG tb hJ [0,1001] [_,.bool false] [1] U2 rfl ⟨fun _ _ _ hx hl _=>Zjj Zbf rfl (hl.D 0 3 rfl rfl) hx,trivial⟩ ?_)
 refine cj 1 (fun hb1=>?_) fun hb1=>?_
 ·
  exact False.elim (by cases hb1)
 ·
  refine Zb (nx (ZG tb hJ [1004] [_,.at b 0,.at b 15,.int (n:Nat),_] [1,2,3] [_] rfl ⟨fun _ _ _ hx hl _=>Zy rfl (hl.D 0 5 rfl rfl) hx,fun _ _ _ hx hl _=>Zr Y2 rfl (hl.D 1 6 rfl rfl) hx,fun _ _ hk hx hl _=>Zw Zay rfl (Yc hH hk hx (mo 0 rfl)) (hl.D 2 7 rfl rfl) rfl hx,trivial⟩ ?_))
  exact tRo 0 (hE:=rfl)
theorem Zh4 (b:Nat) (d:Db) (f:Fr) (nm:Value) (xs:List Itm) (vs vt:Value) (n:Nat) (kn:Bool) (y1 y2:Int)  :FnR prog J 25 [OB.var b (mkM d f nm xs vs vt n kn y1 y2)] [.at b 0] (.agg (vdC (if kn=true then((y1,y2):Int×Int)else(16,(n:Int))))):=by
 refine fER Tryz.func25 fun S w0 hS hJ0 hH=>?_
 refine tw ZR (tsq ?_)
 refine ZT Qe hJ rfl rfl rfl (lb rfl) fun b1=>?_
 refine seK [0,1] U2 rfl (nx (Ze (Zc (ZG tb hJ [0,1,1002] [_,.bool false,_] [1] U3 rfl ⟨fun _ _ _ hx hl _=>Zjj Zbf rfl (hl.D 0 4 rfl rfl) hx,trivial⟩ ?_))))
 refine cj 2 (fun hb1=>?_) fun hb1=>?_
 ·
  exact False.elim (by cases hb1)
 ·
  refine ZG tb hJ [0,1,1005] [_,.at b 0,.at b 16,.bool kn,_,_] [1,2,3] U3 rfl ⟨fun _ _ _ hx hl _=>Zy rfl (hl.D 0 8 rfl rfl) hx,fun _ _ _ hx hl _=>Zr ZcF rfl (hl.D 1 9 rfl rfl) hx,fun _ _ hk hx hl _=>Zw Zmi rfl (Yc hH hk hx (mo 0 rfl)) (hl.D 2 10 rfl rfl) rfl hx,trivial⟩ ?_
  refine cj 2 (fun hb2=>?_) fun hb2=>?_
  ·
   try simp at hb2
   refine tsq (snK 1 tb rfl (sy (.at b 0) (fun h=>Zy rfl (h.get 0 rfl) h.x) ?_))
   refine sy (.at b 15) (fun h=>Zr Y2 rfl (h.get 0 rfl) h.x) ?_
   refine sy (.int (n:Nat)) (fun h=>Zw Zay rfl (Yc hH h.keep h.x (mo 0 rfl)) (h.get 0 rfl) rfl h.x) ?_
   refine sq (.agg (vdC (⟨(16:Int),(n:Int)⟩:Int×Int))) rfl rfl (lb rfl) (fun a _ h=>Xe (us:=[a.eval (.const (.int .i64 16)),a.eval (.tmp 16)]) Ql rfl yz (Zi (Rel.of_lit (.int .i64 16)) (Zi (h.get 0 rfl) ZJ)) rfl h.x) ?_
   refine ZB (b:=b1) (off:=0) (es:=U2) (news:=U2) hJ hJ0 YO rfl rfl rfl (lb rfl) rfl (fun a w h=>⟨(h.get 5 rfl),(h.get 0 rfl)⟩) ?_
   exact seK [5] [_] rfl (nx (ZA (fun a w h=>Xx (m:=0) rfl Xu h rfl rfl (show(_:List CD)=[lI ((if kn=true then((y1,y2):Int×Int)else(16,(n:Int))).1),lI ((if kn=true then((y1,y2):Int×Int)else(16,(n:Int))).2)]from by(simp[hb2])<;>rfl))))
  ·
   try simp at hb2
   refine Zb (nx (tsq (snK 1 tb rfl (sy (.at b 0) (fun h=>Zy rfl (h.get 0 rfl) h.x) ?_))))
   refine sy (.at b 17) (fun h=>Zr ZcE rfl (h.get 0 rfl) h.x) ?_
   refine sy (.agg [lI y1,lI y2]) (fun h=>Yz (ds:=[lI y1,lI y2]) Xu rfl (Yc hH h.keep h.x (mo 0 rfl)) (h.get 0 rfl) rfl rfl h.x) ?_
   refine ZB (b:=b1) (off:=0) (es:=U2) (news:=U2) hJ hJ0 YO rfl rfl rfl (lb rfl) rfl (fun a w h=>⟨(h.get 4 rfl),(h.get 0 rfl)⟩) ?_
   exact seK [4] [_] rfl (nx (ZA (fun a w h=>Xx (m:=0) rfl Xu h rfl rfl (show(_:List CD)=[lI ((if kn=true then((y1,y2):Int×Int)else(16,(n:Int))).1),lI ((if kn=true then((y1,y2):Int×Int)else(16,(n:Int))).2)]from by(simp[hb2])<;>rfl))))
theorem Zvo (b:Nat) (d:Db) (f:Fr) (nm:Value) (xs:List Itm) (vs vt:Value) (n:Nat) (kn:Bool) (y1 y2:Int) (sk:List (List BA)) (hsk:∀ t∈sk,1≤t.length∧t.length≤2000) (hskl:sk.length≤2000):FnR prog J 23 [OB.var b (mkM d f nm xs vs vt n kn y1 y2),OB.row vs 22 1 (sk.map Zn)] [.at b 0] (.rd (Ye sk)):=by
 refine fER Tryz.func23 fun S w0 hS hJ0 hH=>?_
 refine tw ZR (qso tb hJ [0] [_] [_] ?_)
 refine Ze (ZG tb hJ [0,1001] [_,.bool false] [1] U2 rfl ⟨fun _ _ _ hx hl _=>Zjj Zbf rfl (hl.D 0 6 rfl rfl) hx,trivial⟩ ?_)
 refine cj 1 (fun hb1=>?_) fun hb1=>?_
 ·
  exact False.elim (by cases hb1)
 ·
  refine Zb (nx (qso tb hJ [0,1000] [_] U2 ?_))
  refine Ze (ZG tb hJ [1,1003,1004,1005] [_,.at b 0,.at b 13,.lit vs,.int (sk.length:Nat),_] [1,2,3,4] U4 rfl ⟨fun _ _ _ hx hl _=>Zy rfl (hl.D 0 8 rfl rfl) hx,fun _ _ _ hx hl _=>Zr YL rfl (hl.D 1 9 rfl rfl) hx,fun _ _ hk hx hl _=>Zw Zaj rfl (Yc hH hk hx (mo 0 rfl)) (hl.D 2 10 rfl rfl) rfl hx,fun _ _ hk hx hl _=>Zb2 (by rw[List.length_map]) Y9 rfl (Yc hH hk hx (mo 1 rfl)) (hl.D 3 11 rfl rfl) hx,trivial⟩ ?_)
  refine Zc (tw (YS 22 1 hJ) (lpo (ι:=Nat×(List (List BA))×Value) (fun(k,us,_)=>(k≤sk.length)∧(us=sk.take k)) (fun(_,us,v)=>[OB.row v 22 1 (us.map Zn)]) (fun(k,_,v)=>[(13,.int (k:Nat)),(3,.lit v)]) (fun(k,_,_)=>sk.length-k) [1,2,3,0] U2 (0,[],(.slice none 0 0)) ⟨nzl,rfl⟩ ?_))
  rintro⟨k,us,v⟩ ⟨f1_1,f1_2⟩
  refine qso tb hJ [0,1,2,3,1000] [_] U5 ?_
  refine cjS 4 (fun hb2=>?_) fun hb2=>?_
  ·
   try simp at hb2
   have h7:us.length≤2000:=by rw[f1_2,List.length_take];omega
   refine Zb (nx (Ze (Zc (ZG tb hJ [0,1,2,3,1001,1002] [.lit (Y8 vs (k*1)),.rd (Zf (ge sk k)),_] [0,1] U6 rfl ⟨fun _ _ hk hx hl _=>YP (i:=(k:Int)) ZF rfl (Yc hH hk hx (mo 1 rfl)) (hl.env 0 11 _ rfl rfl) (hl.env 2 13 _ rfl rfl) nnn (by rw[List.length_map];exact Int.ofNat_lt.2 sfz) hx,fun _ _ hk hx hl _=>XV (i:=k) Xg rfl (Yc hH hk hx (mo 1 rfl)) (hl.D 0 15 rfl rfl) (Qq (xs:=sk) (k:=k) sfz) hx,trivial⟩ ?_))))
   refine ln 4 fun hl1=>?_
   refine ZE (snK 2 tb rfl (sy (.rd (Zf (ge sk k))) (fun h=>ZaY (Zib hJ (ge sk k) (by have h9:=(hsk _ (Zu (k:=k) oz)).2;omega)) Zft rfl (Zq hS _ h.keep h.x) (h.x.1) (Za (h.get 0 rfl) Zg) (jo hJ h.x)) ?_))
   refine sy (.rd (Ye ([(ge sk k)]))) (fun h=>YC ZF ZaL rfl (h.get 0 rfl) (Zq hS _ h.keep h.x _ nlr) (jo hJ h.x)) ?_
   refine ZS (f:=Zn) (m:=3) (s:=17) us ([(ge sk k)]) (fun _=>rfl) Qy hJ hJ0 rfl rfl rfl (lb rfl) rfl rfl (fun a w h=>(h.get 0 rfl)) sfz sfz fun v1=>?_
   refine snK 1 tb rfl (seK [0,2,6,7,8] U5 rfl ?_)
   refine nx (ln 1 fun hl2=>?_)
   refine Yo tb hJ [0,2,3,1001] [.int (k+1:Nat),_] [0] U4 rfl ⟨Z7,trivial⟩ ?_
   exact YE (k+1,us++([(ge sk k)]),v1) [1,2,3,0] ⟨oz,by rw[f1_2];exact(ZZ oz).symm⟩
  ·
   try simp at hb2
   refine Zs (nx (qso tb hJ [1001] U2 [_] ?_))
   exact tw (fun h=>ZO hS h (m:=0) (s:=2) rfl) (tRo 0 (hE:=congrArg (fun z=>AV.rd (Ye z)) (show us=sk from by rw[f1_2,ZD oz])))
end
end Go.Proofs.YtneapgbkkkjagaaGreatDoor
