/-
  THE ENGINE: a store into a part of an element of an own row; texts one behind the other.
  LETTERS, ONE BY ONE (plain): what the reference's loop knows.
  CONTRACTS of the reference: letters.
  WHAT THE STACK MACHINE KEEPS (plain).
  WHAT IS READ CAN BE WORKED (plain).
  WHAT A RIGHT DATABASE GIVES THE STACK MACHINE (plain).
  PLAIN LAW: labels of a right database.
  THE REFERENCE OF VERDICTS AS DATA (plain): substitution, items, steps.
  THE REFERENCE's MACHINE AND THE PROGRAM's (plain): item by item, step by step.
  THE REFERENCE's RUN AND THE PROGRAM's (plain).
  CONTRACTS of the reference: substitution.
  THE ENGINE: rows of structs from given parts; a struct of a row and a verdict; verdicts compared.
  THE ENGINE: a state of the reference's machine, built empty or with a verdict.
-/
import Derived.Test.YtneapgbkkkjagaaGreatDoorQAC
import Derived.Laws.Concat
namespace Go.Proofs.YtneapgbkkkjagaaGreatDoor
open Go.RowKit
section
variable {n:Rn} {N:Nat} {P:Program} {J X:World→Prop} {S S' S'':Nat→Prop} {O:List OB} {w0:World} {env:List (Nat×AV)} {Q:Exit→Act→World→Prop}
variable {o:Oper} {a:Act} {w:World} {x y:Operand} {t e:TypeId} {v:Value} {k:Nat} {rows:List (List CD)}
theorem Zo2 {c:CD} {r:List CD} {i j:Nat} (hJ:Stab J) (hJ0:J w0) (hs:Qi P t 1) (hop:o.op= .store t x y) (hk0:Keeps All w0 w) (hx:XO J S w0.heap.size (OB.row v e k rows::O) w) (h1:Rel S' w (.lit (XG v (i*k+j))) (a.eval x))
 (h2:Rel (SO S (OB.row v e k rows::O)) w (.rd c) (a.eval y)) (hrow:rows[i]?=some r) (hj:j<r.length):
 Yk n P o a w fun _ w'=>Zbv J S w0 (OB.row v e k rows::O) w (OB.row v e k (rows.set i (r.set j c))::O) w':=by
 have hl:i<rows.length:=(List.getElem?_eq_some_iff.1 hrow).1
 obtain⟨g,cap,old,cur,rfl,hlo,hg,hnc,hcm,hcs,htake,hul,hrd,hlen⟩:=Zbc (hx.2.1 (OB.row v e k rows) (by simp)) (by omega)
 simp only[Rel]at h2
 have hv:(a.eval y).cells.toList=[a.eval y]:=by rw[Ze4 h2.one]
 have hge:rows[i]=r:=(List.getElem?_eq_some_iff.1 hrow).2
 have hrk:r.length=k:=hlen r (hge▸List.getElem_mem hl)
 have hik:i*k+j+1≤rows.length*k:=by
  have:=Nat.mul_le_mul_right k hl
  rw[Nat.succ_mul]at this
  omega
 have hset:(rows.set i (r.set j c)).flatten=rows.flatten.take (i*k+j)++[c]++rows.flatten.drop (i*k+j+1):=by
  have hd:rows.flatten.drop (i*k)=r++rows.flatten.drop (i*k+k):=by
   rw[ZbO rows i hlen,List.drop_eq_getElem_cons hl,hge,List.flatten_cons,show i*k+k=(i+1)*k by rw[Nat.add_mul];omega,ZbO rows (i+1) hlen]
  have hd2:rows.flatten.drop (i*k+j+1)=r.drop (j+1)++rows.flatten.drop (i*k+k):=by
   rw[show i*k+j+1=i*k+(j+1) by omega,←List.drop_drop,hd,List.drop_append_of_le_length (by omega)]
  have hd3:rows.flatten.take (i*k+j)=rows.flatten.take (i*k)++r.take j:=by
   rw[List.take_add,hd,List.take_append_of_le_length (by omega)]
  rw[ZkM rows i (r.set j c) hlen hl,hd3,hd2,List.set_eq_take_append_cons_drop,if_pos hj]
  simp
 have hlen':∀ q∈rows.set i (r.set j c),q.length=k:=fun q hq=>by
  rcases List.mem_or_eq_of_mem_set hq with h | rfl
  · exact hlen q h
  · rw[List.length_set];exact hrk
 generalize hp:i*k+j=p at*
 have hrc:rows.length*k≤cap*k:=Nat.mul_le_mul_right k hnc
 have hr:RdL (SO S (OB.row (.slice (some ⟨g,0,none⟩) rows.length cap) e k rows::O)) w [c] [a.eval y]:=⟨h2,trivial⟩
 have hrun:=Zal (P:=P) (ty:=t) (o:=p) (cur:=cur.toList) (t:=e) hv (by simpa using hs) (by simpa using hg) (by simp;omega) hr.one
 have hlt:g<w.heap.size:=(Array.getElem?_eq_some_iff.1 hg).1
 have hk:Keeps (fun b=>¬ (OB.row (.slice (some ⟨g,0,none⟩) rows.length cap) e k rows).blk b) w (w.setRow g (cur.toList.take p++[a.eval y]++cur.toList.drop (p+ [a.eval y].length)).toArray):=
  (ZaH (g:=g)).sub fun b _ hb e=>hb (by simp[OB.row,Value.ownBlock,e])
 have hsub:∀ b,b<w.heap.size→SO S (OB.row (.slice (some ⟨g,0,none⟩) rows.length cap) e k rows::O) b→(¬ (OB.row (.slice (some ⟨g,0,none⟩) rows.length cap) e k rows).blk b)∧SO S (OB.row (.slice (some ⟨g,0,none⟩) rows.length cap) e k (rows.set i (r.set j c))::O) b:=fun b _ hs=>⟨hs.2 (OB.row (.slice (some ⟨g,0,none⟩) rows.length cap) e k rows) (by simp),hs.1,fun p hp=>by
  rcases List.mem_cons.1 hp with rfl | hp
  · exact hs.2 (OB.row (.slice (some ⟨g,0,none⟩) rows.length cap) e k rows) (by simp)
  · exact hs.2 p (List.mem_cons_of_mem _ hp)⟩
 refine ZbS (w':=w.setRow g (cur.toList.take p++[a.eval y]++cur.toList.drop (p+ [a.eval y].length)).toArray) ?_ (Zbb hJ hJ0 hk0 hx hk (fun b hb=>.inl hb) ⟨old.take p++[a.eval y]++old.drop (p+1),⟨?_,.inr ⟨g,cap,_,?_,hlo,setRow_heap w g _ _ e _ hg,?_,hcm,?_,?_⟩⟩,?_,hlen'⟩)
 · have hv':=h1.lit
   simp only[XG]at hv'
   rw[execOp,hop]
   simp only[hv',Sem.run_bind,hrun]
   rfl
 · simp;omega
 · simp
 · simpa using hnc
 · simp;omega
 · simp only[List.length_set]
   rw[←htake]
   exact ZjZ cur.toList p (rows.length*k) [a.eval y] (by simpa using hik) (by simp;omega)
 · rw[hset]
   exact(((hrd.take p).move hk hsub).append (hr.move hk hsub)).append ((hrd.drop (p+1)).move hk hsub)
theorem Zlv {ops:Array Oper} {rest:List Oper} {c:CD} {r:List CD} {i j:Nat} (hJ:Stab J) (hJ0:J w0) (hs:Qi P t 1) (hg:o.guard=none) (hd:o.dst=none) (hop:o.op= .store t x y) (hrow:rows[i]?=some r) (hj:j<r.length)
 (h1:∀ a w,So J S w0 N (OB.row v e k rows::O) env a w→Rel (SO S (OB.row v e k rows::O)) w (.lit (XG v (i*k+j))) (a.eval x)∧Rel (SO S (OB.row v e k rows::O)) w (.rd c) (a.eval y))
 (next:∀ a w,So J S w0 N (OB.row v e k (rows.set i (r.set j c))::O) env a w→wpListIn n.F n.d P ops Q rest a w):
 ∀ a w,So J S w0 N (OB.row v e k rows::O) env a w→wpListIn n.F n.d P ops Q (o::rest) a w:=
 ZfC (O2:=fun _:Unit=>_) hg hd (fun a w h=>by
  obtain⟨g1,g2⟩:=h1 a w h
  exact ZB (Zo2 hJ hJ0 hs hop h.keep h.x g1 g2 hrow hj) fun _ _ hp=>⟨(),hp⟩) fun _=>next
end
theorem r_addS {n:Rn} {P:Program} {X:World→Prop} {S:Nat→Prop} {o:Oper} {a:Act} {w:World} {x y:Operand} {t u:TypeId} {i j:BA} (hop:o.op= .binOp .add t x y u) (h1:Rel S w (.str i) (a.eval x)) (h2:Rel S w (.str j) (a.eval y)) (hl:i.size+j.size≤9223372036854775807) (hx:X w):Yk n P o a w (YG S X (.str (i++j)) w):=
 Zbr (v:=.string (i++j)) (show(i++j).size≤maxLen by rw[ByteArray.size_append];exact hl) (Za0 ..) (by simp only[binOp];exact run_string_add_sum w i j hl) hop h1 h2 hx
theorem Zaq {J:World→Prop} {S:Nat→Prop} {N:Nat} {P:Program} {w0:World} {env:List (Nat×AV)} {fn:Func} {t u x m k l:Nat} {a1 a2 a3 r1 r2 r3:AV} {a:Act} {w:World} (hr:fn.results= #[.tmp t,.tmp u,.tmp x]) (h:St All S w0 N env J a w) (he:env[m]?=some (t,a1)) (he2:env[k]?=some (u,a2)) (he3:env[l]?=some (x,a3)) (hE:a1=r1) (hE2:a2=r2) (hE3:a3=r3):bodyPost P fn (fun e w'=>∃ v,e= .returned v∧Rel S w' (.tup [r1,r2,r3]) v∧Keeps All w0 w'∧J w') .ret a w:=by
 subst hE;subst hE2;subst hE3
 exact⟨h.defs,.tuple #[a.tmps.getD t undef,a.tmps.getD u undef,a.tmps.getD x undef],by simp[results,hr,Sem.run_pure],_,rfl,by simp only[Rel,RelL];exact⟨_,rfl,_,_,rfl,h.get m he,_,_,rfl,h.get k he2,_,_,rfl,h.get l he3,rfl⟩,h.keep,h.x⟩
end Go.Proofs.YtneapgbkkkjagaaGreatDoor
namespace Go.Proofs.YtneapgbkkkjagaaGreatDoor
def Zs3 (D:List UInt8) (i:Nat) (out:List Lt) (n:Int) (ins fresh:Bool):Prop:=
 (fresh=true→ins=false∧n=0∧∃ pre x,out=pre++[⟨x,false⟩]∧lettersD D 0 false=if i<D.length∧(ge D i).toNat=90 then(pre++⟨x,true⟩::(lettersD (D.drop (i+1)) 0 false).1,(lettersD (D.drop (i+1)) 0 false).2)else(out++(lettersD (D.drop i) 0 false).1,(lettersD (D.drop i) 0 false).2))∧
 (fresh=false→lettersD D 0 false=(out++(lettersD (D.drop i) n ins).1,(lettersD (D.drop i) n ins).2))
section
variable {D:List UInt8} {i:Nat} {out:List Lt} {n:Int} {ins fresh:Bool}
theorem ZlZ:Zs3 D 0 [] 0 false false:=⟨fun h=>(by cases h),fun _=>by simp⟩
theorem Zar (h:Zs3 D i out n ins fresh) (hc:¬ (i<D.length∧(ge D i).toNat=90)):lettersD D 0 false=(out++(lettersD (D.drop i) n ins).1,(lettersD (D.drop i) n ins).2):=by
 cases hf:fresh with
 | false=>exact h.2 hf
 | true=>
  obtain⟨h1,h2,pre,x,h3,h4⟩:=h.1 hf
  subst h1
  subst h2
  rw[if_neg hc]at h4
  exact h4
theorem Zrs (h:Zs3 D i out n ins fresh) (hi:¬ i<D.length):lettersD D 0 false=(out,ins):=by
 rw[Zar h (fun e=>hi e.1),Zjb hi]
 simp
variable (h:Zs3 D i out n ins fresh) (hi:i<D.length)
include h hi
theorem invR_A (h1:65≤(ge D i).toNat∧(ge D i).toNat≤84) (h2:¬ 1000000<20*n+(((ge D i).toNat:Int)-65)+1):Zs3 D (i+1) (out++[⟨20*n+(((ge D i).toNat:Int)-65)+1,false⟩]) 0 false true:=by
 have hb:=Zar h (fun e=>by omega)
 refine⟨fun _=>⟨rfl,rfl,out,_,rfl,?_⟩,fun e=>by cases e⟩
 by_cases h4:i+1<D.length∧(ge D (i+1)).toNat=90
 · rw[if_pos h4,hb,let_Z hi (by omega) h1 h2 h4.1 h4.2]
 · rw[if_neg h4,hb,let_N hi (by omega) h1 h2 h4]
   simp
theorem Zrt (h1:65≤(ge D i).toNat∧(ge D i).toNat≤84) (h2:1000000<20*n+(((ge D i).toNat:Int)-65)+1):(lettersD D 0 false).2=true:=by
 rw[Zar h (fun e=>by omega),Zon hi (by omega) h1 h2]
theorem invR_U (h1:85≤(ge D i).toNat∧(ge D i).toNat≤89) (h2:¬ 1000000<5*n+(((ge D i).toNat:Int)-85)+1):Zs3 D (i+1) out (5*n+(((ge D i).toNat:Int)-85)+1) true false:=by
 refine⟨fun e=>(by cases e),fun _=>?_⟩
 rw[Zar h (fun e=>by omega),Zrf hi h1,if_neg h2]
theorem ZoE (h1:85≤(ge D i).toNat∧(ge D i).toNat≤89) (h2:1000000<5*n+(((ge D i).toNat:Int)-85)+1):(lettersD D 0 false).2=true:=by
 rw[Zar h (fun e=>by omega),Zrf hi h1,if_pos h2]
theorem invR_Z (h1:(ge D i).toNat=90) (hf:fresh=true):0<out.length∧Zs3 D (i+1) (out.set (out.length-1) ⟨(ge out (out.length-1)).number,true⟩) n ins false:=by
 obtain⟨h5,h6,pre,x,h3,h4⟩:=h.1 hf
 rw[h5,h6]
 rw[if_pos ⟨hi,h1⟩]at h4
 subst h3
 refine⟨by simp,fun e=>(by cases e),fun _=>?_⟩
 have e1:(pre++[(⟨x,false⟩:Lt)]).length-1=pre.length:=by simp
 have e2:ge (pre++[(⟨x,false⟩:Lt)]) pre.length=⟨x,false⟩:=by simp[ge]
 rw[e1,e2,h4]
 simp
theorem ZoD (h1:(ge D i).toNat=90) (hf:fresh=false):(lettersD D 0 false).2=true:=by
 rw[h.2 hf,Zjc hi (by omega) (by omega) (by omega)]
theorem invR_Q (h1:(ge D i).toNat=63) (h2:ins=false):Zs3 D (i+1) (out++[⟨0,false⟩]) n ins false:=by
 refine⟨fun e=>(by cases e),fun _=>?_⟩
 rw[Zar h (fun e=>by omega),let_Q hi (by omega) (by omega) h1 h2]
 simp
theorem ZkD (h1:¬ (65≤(ge D i).toNat∧(ge D i).toNat≤84)) (h2:¬ (85≤(ge D i).toNat∧(ge D i).toNat≤89)) (h3:¬ (ge D i).toNat=90) (h4:¬ ((ge D i).toNat=63∧ins=false)):(lettersD D 0 false).2=true:=by
 rw[Zar h (fun e=>h3 e.2),Zjc hi h2 h1 h4]
end
theorem idx_mem {l:List BA} {s:BA}:0≤Yp (isV s) l↔s∈l:=by
 constructor
 · intro h
   have h1:=Zas (p:=isV s) (xs:=l) (by omega)
   have h2:s=ge l (Yp (isV s) l).toNat:=by simpa [isV]using h1.2.2.1
   rw[h2]
   exact Zv h1.2.1
 · intro h
   have h2:=Zb6 (isV s) l
   have h3:l.any (isV s)=true:=List.any_eq_true.2 ⟨s,h,by simp[isV]⟩
   rw[h3]at h2
   simpa using h2
def Zvv (l:List BA):BA:=l.foldl (fun a b=>a++b) ⟨#[]⟩
theorem ZkU {l:List BA} {k:Nat} (h:k<l.length):Zvv (l.take (k+1))=Zvv (l.take k)++ge l k:=ZbN h
theorem ZkX (l:List BA):(Zvv l).data.toList=(l.map (·.data.toList)).flatten:=by
 have key:∀(l:List BA) (a:BA),(l.foldl (fun a b=>a++b) a).data.toList=a.data.toList++(l.map (·.data.toList)).flatten:=by
  intro l
  induction l with
  | nil=>intro a;simp
  | cons x r ih=>intro a;rw[List.foldl_cons,ih];simp
 exact(key l ⟨#[]⟩).trans (by simp)
theorem Zh2:∀ l:List (List UInt8),Lib.join l []=l.flatten
 | []=>rfl
 | x::r=>by rw[Lib.join_cons,Lib.joinTail];simp
theorem ZkW (l:List BA):Zbh l ⟨#[]⟩=Zvv l:=by
 unfold Zbh
 have h:Lib.join (l.map (·.data.toList)) (⟨#[]⟩:BA).data.toList=(Zvv l).data.toList:=by
  rw[ZkX]
  exact Zh2 _
 rw[h]
theorem ZkV (l:List BA):(Zvv l).size=ZaR l:=by
 have h:=congrArg List.length (ZkX l)
 rw[←Zh2,ZgH]at h
 exact h
theorem ZmY (l:List BA) (k:Nat):ZaR (l.take k)≤ZaR l:=by
 have h:ZaR (l.take k++l.drop k)=ZaR (l.take k)+ZaR (l.drop k):=by
  unfold ZaR
  rw[List.map_append,List.sum_append]
 rw[List.take_append_drop]at h
 omega
abbrev Zrz (t:List BA):Nat:=(Yp (isV ⟨#[41]⟩) t).toNat
abbrev Xg (t:List BA):List BA:=(t.take (Zrz t)).drop 1
abbrev Yb (t:List BA):BA:=Zbh (t.drop (Zrz t+1)) ⟨#[]⟩
def QS (t:List BA):List BA×List Lt×Int:=
 if QW t=true then
  match XD t with
  | none=>([],[],20)
  | some z=>if Qw z.1=true then([],[],20)else if(Zj z.2).2=true then([],[],21)else if 2000< (Zj z.2).1.length then([],[],10)else(z.1,(Zj z.2).1,0)
 else([],[],2)
theorem le_2 {t:List BA} (h:QW t=false):QS t=([],[],2):=by
 unfold QS
 rw[if_neg (by simp[h])]
section
variable {t:List BA} (h0:QW t=true)
include h0
theorem Zrg (h:XD t=none):QS t=([],[],20):=by
 unfold QS
 rw[if_pos h0,h]
variable {z:List BA×BA} (hz:XD t=some z)
include hz
theorem ZgG (h:Qw z.1=true):QS t=([],[],20):=by
 unfold QS
 rw[if_pos h0,hz]
 exact if_pos h
variable (h1:Qw z.1=false)
include h1
theorem ZlV:QS t=if(Zj z.2).2=true then([],[],21)else if 2000< (Zj z.2).1.length then([],[],10)else(z.1,(Zj z.2).1,0):=by
 unfold QS
 rw[if_pos h0,hz]
 exact if_neg (by simp[h1])
theorem le_21 (h:(Zj z.2).2=true):QS t=([],[],21):=by rw[ZlV h0 hz h1,if_pos h]
variable (h2:(Zj z.2).2=false)
include h2
theorem le_10 (h:2000< (Zj z.2).1.length):QS t=([],[],10):=by rw[ZlV h0 hz h1,if_neg (by simp[h2]),if_pos h]
theorem le_ok (h:¬ 2000< (Zj z.2).1.length):QS t=(z.1,(Zj z.2).1,0):=by rw[ZlV h0 hz h1,if_neg (by simp[h2]),if_neg h]
end
theorem ZpP {l:List BA}:(l.any fun w=>!QE w)= !l.all QE:=by
 induction l with
 | nil=>rfl
 | cons x r ih=>rw[List.any_cons,List.all_cons,ih,Bool.not_and]
theorem Zoq {t:List BA} (h1:¬ Yp (isV ⟨#[41]⟩) t<0) (h2:(Xg t).all QE=true):XD t=some (Xg t,Yb t):=Zkn h1 (by rw[ZpP,h2];rfl)
theorem le_bad {t:List BA} (h0:QW t=true) (h:Yp (isV ⟨#[41]⟩) t<0∨(Xg t).all QE=false∨Qw (Xg t)=true):QS t=([],[],20):=by
 by_cases h1:Yp (isV ⟨#[41]⟩) t<0
 · exact Zrg h0 (Zgx h1)
 by_cases h2:(Xg t).all QE=true
 · refine ZgG h0 (Zoq h1 h2) ?_
   rcases h with h | h | h
   · exact absurd h h1
   · rw[h2]at h;cases h
   · exact h
 · exact Zrg h0 (ZhB h1 (by rw[ZpP];simpa using h2))
theorem Zu0 {t:List BA} (h0:QW t=true) (h:((decide (Yp (isV ⟨#[41]⟩) t<0)|| !((Xg t).all QE))||Qw (Xg t))=true):QS t=([],[],20):=by
 refine le_bad h0 ?_
 rw[Bool.or_eq_true,Bool.or_eq_true,decide_eq_true_eq,Bool.not_eq_true']at h
 rcases h with(h | h) | h
 · exact .inl h
 · exact .inr (.inl h)
 · exact .inr (.inr h)
theorem Zrh {t:List BA} (h:((decide (Yp (isV ⟨#[41]⟩) t<0)|| !((Xg t).all QE))||Qw (Xg t))=false):¬ Yp (isV ⟨#[41]⟩) t<0∧XD t=some (Xg t,Yb t)∧Qw (Xg t)=false:=by
 rw[Bool.or_eq_false_iff,Bool.or_eq_false_iff,decide_eq_false_iff_not]at h
 obtain⟨⟨h1,h2⟩,h3⟩:=h
 have h4:(Xg t).all QE=true:=by cases h5:(Xg t).all QE with
  | true=>rfl
  | false=>rw[h5]at h2;cases h2
 exact⟨h1,Zoq h1 h4,h3⟩
theorem Zfb (t:List BA) (k:Nat):(Zbh (t.drop k) ⟨#[]⟩).size≤ZaR t:=by
 rw[ZkW,ZkV]
 exact ZcG t k
theorem Znp {S:Nat→Prop} {w:World} {v:Value} {i:Int} (h0:0≤i) (h:Rel S w (.int i) v):Rel S w (.int ((i.toNat:Nat):Int)) v:=by
 rw[Int.toNat_of_nonneg h0]
 exact h
end Go.Proofs.YtneapgbkkkjagaaGreatDoor
set_option maxHeartbeats 8000000
set_option maxRecDepth 100000
namespace Go.Proofs.YtneapgbkkkjagaaGreatDoor
open Go.Proofs.Tryz (prog)
open Go.RowKit
theorem Zf6:Zdf prog 121 [.int .i64 0,.bool false]:=⟨fun i=>(#[(0,1),(1,1)]:Array (Nat×Nat))[i]?,fun j hj=>by rcases j with _ | _ | j<;>first | rfl | (simp at hj;omega),fun parts=>by kernel_rfl⟩
theorem ZdQ {J:World→Prop} (hJ:Stab J) (l:List BA)  :Fn prog J 65 [.rd (Zg l)] (.bool (QW l)):=by
 refine Zo (N:=12) Tryz.func65 rfl rfl (lb rfl) fun S w0 hS hJ0=>?_
 clear hJ0
 refine ln 0 fun hl1=>?_
 refine qs tb hJ [0] [_] [_] ?_
 refine hqs tb hJ [1009] [_,.int (l.length:Nat),_,_,_,.ptr [lS (ge l 0)],_,_,_,_] [1,5] [_] rfl ⟨Z2 Zm,gIx (k:=0) Zd (hk:=fun(hc':((decide ((0:Int)< (l.length:Int)))==true)=true)=>by(try simp at hc');first | omega | (simp;omega) | grind[Zv]),trivial⟩ ?_
 exact Ze (rtn (m:=0) rfl rfl (eB (by unfold QW;by_cases h9:0<l.length<;>simp[h9])))
theorem Zg3 {J:World→Prop} (hJ:Stab J) (xs:List BA) (s:BA)  :Fn prog J 68 [.rd (Zg xs),.str s] (.int (Yp (isV s) xs)):=by
 refine Zo (N:=19) Tryz.func68 rfl rfl (lb rfl) fun S w0 hS hJ0=>?_
 clear hJ0
 refine ln 0 fun hl1=>?_
 refine qs tb hJ [0,1] [_] [_,_] ?_
 refine Zf (qs tb hJ [0,1,1000] [_] U3 ?_)
 refine Zc (lp (ι:=Nat) (fun k=>(k≤xs.length)∧(∀ j,j<k→isV s (ge xs j)=false)) (fun k=>[(5,.int (k:Nat))]) (fun k=>xs.length-k) [0,1,2] [_,_] 0 ⟨Nat.zero_le _,fun j hj=>by omega⟩ ?_)
 rintro k ⟨f1_1,f1_2⟩
 refine Zf (hqs tb hJ [0,1,2,1003] [_,_,.int (xs.length:Nat),_] [2] U4 rfl ⟨Z2 Zm,trivial⟩ ?_)
 refine cj 3 (fun hb1=>?_) fun hb1=>?_
 try simp at hb1
 refine Zb (nx (Zf (Zc (hqs tb hJ [0,1,2,1005] [_,_,.ptr [lS (ge xs k)],_,_,_] [2] U4 rfl ⟨iIx Zd,trivial⟩ ?_))))
 refine cj 3 (fun hb2=>?_) fun hb2=>?_
 try simp at hb2
 refine qs tb hJ [1001] [_,_] [_] ?_
 exact Ze (rtn (m:=0) rfl rfl (eI (by first | exact(Xf hb1 (by simp only[isV,decide_eq_true_eq];exact hb2.symm) f1_2).symm | exact(YT fun j hj=>f1_2 j (by omega)).symm)))
 try simp at hb2
 refine Zb (nx (hqp tb hJ [0,1,1002] [_,.int (k+1:Nat),_] [1] U3 rfl ⟨Ya,trivial⟩ ?_))
 exact lpE (k+1) [0,1,2] ⟨by omega,ZK f1_2 (by simp only[isV,decide_eq_false_iff_not];exact fun e=>hb2 e.symm)⟩
 try simp at hb1
 refine Zt (nx (qs tb hJ [1000] [_] [_] ?_))
 exact Ze (rtn (m:=0) rfl rfl (eI (by first | exact(Xf hb1 (by simp only[isV,decide_eq_true_eq];exact hb2.symm) f1_2).symm | exact(YT fun j hj=>f1_2 j (by omega)).symm)))
theorem Zwd {J:World→Prop} (hJ:Stab J) (l:List BA)  :Fn prog J 118 [.rd (Zg l)] (.bool (Qw l)):=by
 refine Zo (N:=19) Tryz.func118 rfl rfl (lb rfl) fun S w0 hS hJ0=>?_
 clear hJ0
 refine ln 0 fun hl1=>?_
 refine qs tb hJ [0] [_] [_] ?_
 refine Zf (qs tb hJ [0,1000] [_] [_,_] ?_)
 refine Zc (lp (ι:=Nat) (fun k=>(k≤l.length)∧(∀ j,j<k→¬ ge l j∈l.take j)) (fun k=>[(3,.int (k:Nat))]) (fun k=>l.length-k) [0,1] [_] 0 ⟨Nat.zero_le _,fun j hj=>by omega⟩ ?_)
 rintro k ⟨f1_1,f1_2⟩
 refine Zf (hqs tb hJ [0,1,1003] [_,_,.int (l.length:Nat),_] [2] U3 rfl ⟨Z2 Zm,trivial⟩ ?_)
 refine cj 2 (fun hb1=>?_) fun hb1=>?_
 try simp at hb1
 refine Zb (nx (Zf (Zc (hqs tb hJ [0,1,1002,1008] [_,_,.rd (Zg (l.take k)),_,_,.ptr [lS (ge l k)],_,.int (Yp (isV (ge l k)) (l.take k)),_] [2,5,7] U4 rfl ⟨fun _ _ _ hx hl _=>Yy (ys:=l.take k) (lo:=0) (hi:=k) List.drop_zero Zd (fun _=>rfl) rfl (hl.D 0 10 rfl rfl) rfl (hl.D 1 11 rfl rfl) sfz sfz hx,iIx Zd,iFn hS hJ (Zg3 hJ (l.take k) (ge l k)) ZgY,trivial⟩ ?_))))
 refine ln 2 fun hl2=>?_
 refine cj 3 (fun hb2=>?_) fun hb2=>?_
 try simp at hb2
 refine qs tb hJ [1000] [_] [_] ?_
 exact Ze (rtn (m:=0) rfl rfl (eB (by first | (rw[Zem hb1 (idx_mem.1 (by omega))]) | (rw[Zgj fun j hj=>f1_2 j (by omega)]))))
 try simp at hb2
 refine Zb (nx (hqp tb hJ [0,1002] [_,.int (k+1:Nat),_] [1] [_,_] rfl ⟨Ya,trivial⟩ ?_))
 exact lpE (k+1) [0,1] ⟨by omega,ZK f1_2 (fun e=>by have h9:=idx_mem.2 e;omega)⟩
 try simp at hb1
 refine Zt (nx (qs tb hJ [1000] [_] [_] ?_))
 exact Ze (rtn (m:=0) rfl rfl (eB (by first | (rw[Zem hb1 (idx_mem.1 (by omega))]) | (rw[Zgj fun j hj=>f1_2 j (by omega)]))))
theorem ZsM {J:World→Prop} (hJ:Stab J) (l:List BA)  :Fn prog J 117 [.rd (Zg l)] (.bool (l.all QE)):=by
 refine Zo (N:=16) Tryz.func117 rfl rfl (lb rfl) fun S w0 hS hJ0=>?_
 clear hJ0
 refine ln 0 fun hl1=>?_
 refine qs tb hJ [0] [_] [_] ?_
 refine Zf (qs tb hJ [0,1000] [_] [_,_] ?_)
 refine Zc (lp (ι:=Nat) (fun k=>(k≤l.length)∧(∀ j,j<k→QE (ge l j)=true)) (fun k=>[(3,.int (k:Nat))]) (fun k=>l.length-k) [0,1] [_] 0 ⟨Nat.zero_le _,fun j hj=>by omega⟩ ?_)
 rintro k ⟨f1_1,f1_2⟩
 refine Zf (hqs tb hJ [0,1,1003] [_,_,.int (l.length:Nat),_] [2] U3 rfl ⟨Z2 Zm,trivial⟩ ?_)
 refine cj 2 (fun hb1=>?_) fun hb1=>?_
 try simp at hb1
 refine Zb (nx (Zf (Zc (hqs tb hJ [0,1,1005] [_,_,.ptr [lS (ge l k)],_,.bool (QE (ge l k)),_] [2,4] U3 rfl ⟨iIx Zd,iFn hS hJ (Zc6 hJ (ge l k)) ZgV,trivial⟩ ?_))))
 refine cj 2 (fun hb2=>?_) fun hb2=>?_
 try simp at hb2
 refine qs tb hJ [1000] [_] [_] ?_
 exact Ze (rtn (m:=0) rfl rfl (eB (by first | (rw[QC hb1 (by simpa using hb2)]) | (rw[ZpO fun j hj=>f1_2 j (by omega)]))))
 try simp at hb2
 refine Zb (nx (hqp tb hJ [0,1002] [_,.int (k+1:Nat),_] [1] [_,_] rfl ⟨Ya,trivial⟩ ?_))
 exact lpE (k+1) [0,1] ⟨by omega,ZK f1_2 (by simpa using hb2)⟩
 try simp at hb1
 refine Zt (nx (qs tb hJ [1000] [_] [_] ?_))
 exact Ze (rtn (m:=0) rfl rfl (eB (by first | (rw[QC hb1 (by simpa using hb2)]) | (rw[ZpO fun j hj=>f1_2 j (by omega)]))))
theorem ZpB {J:World→Prop} (hJ:Stab J) (l:List BA) (hs:ZaR l≤1000000000):Fn prog J 70 [.rd (Zg l)] (.str (Zbh l ⟨#[]⟩)):=by
 refine Zo (N:=18) Tryz.func70 rfl rfl (lb rfl) fun S w0 hS hJ0=>?_
 clear hJ0
 refine ln 0 fun hl1=>?_
 refine qs tb hJ [0] [_] [_] ?_
 refine qs tb hJ [0,1000] [_] [_,_] ?_
 refine Zf (qs tb hJ [0,1,1000] [_] U3 ?_)
 refine Zc (lp (ι:=Nat×BA) (fun(k,u)=>(k≤l.length)∧(u=Zvv (l.take k))) (fun(k,u)=>[(4,.int (k:Nat)),(3,.str u)]) (fun(k,_)=>l.length-k) [0,2,1] [_] (0,⟨#[]⟩) ⟨Nat.zero_le _,rfl⟩ ?_)
 rintro⟨k,u⟩ ⟨f1_1,f1_2⟩
 refine Zf (hqs tb hJ [0,1,2,1003] [_,_,.int (l.length:Nat),_] [2] U4 rfl ⟨Z2 Zm,trivial⟩ ?_)
 refine cj 3 (fun hb1=>?_) fun hb1=>?_
 try simp at hb1
 refine Zb (nx (Zf (Zc (hqp tb hJ [0,1,1006] [_,_,_,.ptr [lS (ge l k)],_,.str (u++(ge l k)),_] [3,5] U3 rfl ⟨iIx Zd,fun _ _ _ hx hl _=>r_addS rfl (hl.D 0 11 rfl rfl) (hl.D 4 15 rfl rfl) (by have h9:=ZkV (l.take (k+1));rw[ZkU hb1,ByteArray.size_append]at h9;have h8:=ZmY l (k+1);rw[f1_2];omega) hx,trivial⟩ ?_))))
 refine nx (hqp tb hJ [0,2,1002] [_,.int (k+1:Nat),_] [1] U3 rfl ⟨Ya,trivial⟩ ?_)
 exact lpE (k+1,(u++(ge l k))) [0,2,1] ⟨by omega,by rw[ZkU hb1,f1_2]⟩
 try simp at hb1
 refine Zt (nx (qs tb hJ [1001] [_,_] [_] ?_))
 exact Ze (rtn (m:=0) rfl rfl (eS (by rw[f1_2,ZF (by omega),ZkW])))
theorem Zio {J:World→Prop} (hJ:Stab J) (s:BA) (hs:s.size≤1000000000):FnM (ι:= {q:List Lt×Bool // q.2= !(lettersD s.data.toList 0 false).2∧((lettersD s.data.toList 0 false).2=false→q.1=(lettersD s.data.toList 0 false).1)}) prog J 69 [] [.str s] [] (fun i'=>.tup [.rd (Zhg (i'.1.1)),.bool (i'.1.2)]) (fun _=>[]):=by
 refine Yt (N:=75) Tryz.func69 rfl rfl (lb rfl) fun S w0 R hS hJ0 hH=>?_
 refine YA (B:=So J S w0 75 (R) [(0,.str s)]) ?_ fun a w h=>h
 refine qso tb hJ [0] [_,_] [_] ?_
 refine tsq ?_
 refine Xp Xz hJ rfl rfl rfl (lb rfl) fun v1=>?_
 refine snK 1 tb rfl ?_
 refine seK [0,2] [_,_] rfl ?_
 refine nx (qso tb hJ [0,1,1000] [_] U3 ?_)
 refine qso tb hJ [0,1,2,1000] [_] U4 ?_
 refine qso tb hJ [0,1,2,3,1000] [_] U5 ?_
 refine Zf (qso tb hJ (r5 [1000]) [_] U6 ?_)
 refine Zc (lpo (ι:=Nat×Int×Bool×Bool×(List Lt)×Value) (fun(p,m,ins,fr,us,_)=>(p≤s.size)∧(0≤m∧m≤1000000)∧(Zs3 s.data.toList p us m ins fr)∧(us.length≤p)) (fun(_,_,_,_,us,v)=>(OB.row v 121 2 (us.map ltC)::R)) (fun(p,m,ins,fr,_,v)=>[(8,.int (p:Nat)),(5,.int m),(6,.bool ins),(7,.bool fr),(4,.lit v)]) (fun(p,_,_,_,_,_)=>s.size-p) [1,5,2,3,4,0] [_] (0,0,false,false,([]:List Lt),v1) ⟨Nat.zero_le _,⟨by omega,by omega⟩,ZlZ,Nat.zero_le _⟩ ?_)
 rintro⟨p,m,ins,fr,us,v⟩ ⟨f1_1,f1_2,f1_3,f1_4⟩
 refine Zf (ZG tb hJ (r6 [1003]) [_,_,.int (s.size:Nat),_] [2] U7 rfl ⟨Zmv ZX,trivial⟩ ?_)
 refine cj 6 (fun hb1=>?_) fun hb1=>?_
 try simp at hb1
 have e1:p<s.data.toList.length:=hb1
 refine Zb (nx (Zf (Zc (ZG tb hJ (r6 [1003]) [_,_,.rd (.lit (.int .u8 ((ge s.data.toList p).toNat:Int))),_] [2] U7 rfl ⟨fun _ _ _ hx hl _=>ZdG (i:=(p:Int)) ZX rfl (hl.D 0 17 rfl rfl) (hl.D 1 18 rfl rfl) (Int.natCast_nonneg _) (ZaK (s:=s) (k:=p) sfz) hx,trivial⟩ ?_))))
 refine qso tb hJ (r7 [1005]) U6 U8 ?_
 refine cj 7 (fun hb2=>?_) fun hb2=>?_
 try simp at hb2
 have e2:65≤(ge s.data.toList p).toNat∧(ge s.data.toList p).toNat≤84:=by omega
 refine ZG tb hJ [0,1,5,1007] [_,.int ((20:Int)*m),_,.rd (.lit (.int .u8 (((ge s.data.toList p).toNat:Int)-(65:Int)))),.int (((ge s.data.toList p).toNat:Int)-(65:Int)),.int ((20:Int)*m+(((ge s.data.toList p).toNat:Int)-(65:Int))),.int ((20:Int)*m+(((ge s.data.toList p).toNat:Int)-(65:Int))+(1:Int)),_] [1,3,4,5,6] U4 rfl ⟨fun _ _ _ hx hl _=>ZqB (i:=(20:Int)) (j:=m) rfl (Rel.of_lit (.int .i64 20)) (hl.D 0 26 rfl rfl) sfz sfz hx,fun _ _ _ hx hl _=>Zkd (i:=((ge s.data.toList p).toNat:Int)) (j:=(65:Int)) rfl (hl.D 2 28 rfl rfl) (Rel.of_lit (.int .u8 65)) sfz sfz hx,fun _ _ _ hx hl _=>Zd4 (i:=((ge s.data.toList p).toNat:Int)-(65:Int)) ZbB Qb rfl (hl.D 3 29 rfl rfl) sfz sfz hx,Ya,Ya,trivial⟩ ?_
 refine Zf (qso tb hJ [0,1,2,3,1001] [_,_] U5 ?_)
 refine cj 4 (fun hb3=>?_) fun hb3=>?_
 try simp at hb3
 have e7:=Zrt f1_3 e1 e2 (by omega)
 refine qso tb hJ [1000,1001] [_,_] [_,_] ?_
 refine tw (fun h=>Z3 h (m:=0) (s:=2) rfl) ?_
 refine tw ZM ?_
 exact Ze (fun a w h=>Zcq  (m:=0) (k:=1) ⟨(([]:List Lt),false),by first | exact⟨by rw[e7];rfl,fun h=>by rw[e7]at h;cases h⟩ | exact⟨by rw[e7],fun _=>by rw[e7]⟩⟩ rfl h rfl rfl (Zt4 rfl rfl))
 try simp at hb3
 have e5:=invR_A f1_3 e1 e2 (by omega)
 refine Zb (nx (tsq ?_))
 refine snK 2 tb rfl ?_
 refine sq (.agg (ltC (⟨(20:Int)*m+(((ge s.data.toList p).toNat:Int)-(65:Int))+(1:Int),false⟩:Lt))) rfl rfl (lb rfl) (fun a _ h=>Yh (ps:=[(0,a.eval (.tmp 36))]) (us:=[a.eval (.tmp 36),.bool false]) Zf6 rfl (by simp) (Zcy (lb rfl) (Rel.oneC (h.get 0 rfl)) Zdd) rfl (Zk (h.get 0 rfl) (YB (.lit _ True.intro) ZJ)) h.x) ?_
 refine sy (.rd (Zhg ([(⟨(20:Int)*m+(((ge s.data.toList p).toNat:Int)-(65:Int))+(1:Int),false⟩:Lt)]))) (fun h=>Y7 Xz ZjM (by decide) rfl rfl (h.get 0 rfl) (Zp hS _ h.keep h.x _ (Nat.le_refl _)) (jo hJ h.x)) ?_
 refine ZR (f:=ltC) (m:=3) (s:=35) us ([(⟨(20:Int)*m+(((ge s.data.toList p).toNat:Int)-(65:Int))+(1:Int),false⟩:Lt)]) (fun _=>rfl) Zfe hJ hJ0 rfl rfl rfl (lb rfl) rfl rfl (fun a w h=>(h.get 0 rfl)) sfz sfz fun v2=>?_
 refine snK 1 tb rfl ?_
 refine seK [0,2,6,7] U4 rfl ?_
 refine nx (ln 1 fun hl1=>?_)
 refine qpo tb hJ [0,2,3,1000,1001,1002] U3 U6 ?_
 refine nx (Yu tb hJ [0,1,3,4,5,1002] [_,.int (p+1:Nat),_] [1] U6 rfl ⟨Ya,trivial⟩ ?_)
 exact YH (p+1,0,false,true,us++([(⟨(20:Int)*m+(((ge s.data.toList p).toNat:Int)-(65:Int))+(1:Int),false⟩:Lt)]),v2) [1,5,2,3,4,0] ⟨by omega,⟨by omega,by omega⟩,e5,by first | (simp;omega) | omega⟩
 try simp at hb2
 have e2:¬ (65≤(ge s.data.toList p).toNat∧(ge s.data.toList p).toNat≤84):=by omega
 refine qso tb hJ (r7 [1005]) U6 U8 ?_
 refine cj 7 (fun hb4=>?_) fun hb4=>?_
 try simp at hb4
 have e4:85≤(ge s.data.toList p).toNat∧(ge s.data.toList p).toNat≤89:=by omega
 refine ZG tb hJ [0,1,5,1007] [_,.int ((5:Int)*m),_,.rd (.lit (.int .u8 (((ge s.data.toList p).toNat:Int)-(85:Int)))),.int (((ge s.data.toList p).toNat:Int)-(85:Int)),.int ((5:Int)*m+(((ge s.data.toList p).toNat:Int)-(85:Int))),.int ((5:Int)*m+(((ge s.data.toList p).toNat:Int)-(85:Int))+(1:Int)),_] [1,3,4,5,6] U4 rfl ⟨fun _ _ _ hx hl _=>ZqB (i:=(5:Int)) (j:=m) rfl (Rel.of_lit (.int .i64 5)) (hl.D 0 46 rfl rfl) sfz sfz hx,fun _ _ _ hx hl _=>Zkd (i:=((ge s.data.toList p).toNat:Int)) (j:=(85:Int)) rfl (hl.D 2 48 rfl rfl) (Rel.of_lit (.int .u8 85)) sfz sfz hx,fun _ _ _ hx hl _=>Zd4 (i:=((ge s.data.toList p).toNat:Int)-(85:Int)) ZbB Qb rfl (hl.D 3 49 rfl rfl) sfz sfz hx,Ya,Ya,trivial⟩ ?_
 refine Zf (qso tb hJ [0,1,2,3,1001] [_,_] U5 ?_)
 refine cj 4 (fun hb5=>?_) fun hb5=>?_
 try simp at hb5
 have e7:=ZoE f1_3 e1 e4 (by omega)
 refine qso tb hJ [1000,1001] [_,_] [_,_] ?_
 refine tw (fun h=>Z3 h (m:=0) (s:=2) rfl) ?_
 refine tw ZM ?_
 exact Ze (fun a w h=>Zcq  (m:=0) (k:=1) ⟨(([]:List Lt),false),by first | exact⟨by rw[e7];rfl,fun h=>by rw[e7]at h;cases h⟩ | exact⟨by rw[e7],fun _=>by rw[e7]⟩⟩ rfl h rfl rfl (Zt4 rfl rfl))
 try simp at hb5
 have e5:=invR_U f1_3 e1 e4 (by omega)
 refine Zb (nx (qpo tb hJ [0,1,2,3,1000,1001] [_,_] U6 ?_))
 refine nx (Yu tb hJ [0,2,3,4,5,1002] [_,.int (p+1:Nat),_] [1] U6 rfl ⟨Ya,trivial⟩ ?_)
 exact YH (p+1,(5:Int)*m+(((ge s.data.toList p).toNat:Int)-(85:Int))+(1:Int),true,false,us,v) [0,5,2,3,4,1] ⟨by omega,⟨by omega,by omega⟩,e5,by first | (simp;omega) | omega⟩
 try simp at hb4
 have e4:¬ (85≤(ge s.data.toList p).toNat∧(ge s.data.toList p).toNat≤89):=by omega
 refine qso tb hJ (r7 [1001]) [_,_] U8 ?_
 refine cj 7 (fun hb6=>?_) fun hb6=>?_
 try simp at hb6
 have e6:(ge s.data.toList p).toNat=90:=by omega
 refine Zf (qso tb hJ [0,1,2,3,5,1001] [_,_] U6 ?_)
 refine cj 5 (fun hb7=>?_) fun hb7=>?_
 try simp at hb7
 have e7:=ZoD f1_3 e1 e6 hb7
 refine qso tb hJ [1000,1001] [_,_] [_,_] ?_
 refine tw (fun h=>Z3 h (m:=0) (s:=2) rfl) ?_
 refine tw ZM ?_
 exact Ze (fun a w h=>Zcq  (m:=0) (k:=1) ⟨(([]:List Lt),false),by first | exact⟨by rw[e7];rfl,fun h=>by rw[e7]at h;cases h⟩ | exact⟨by rw[e7],fun _=>by rw[e7]⟩⟩ rfl h rfl rfl (Zt4 rfl rfl))
 try simp at hb7
 obtain⟨e50,e5⟩:=invR_Z f1_3 e1 e6 (by simpa using hb7)
 refine Zb (nx (tsq ?_))
 refine snK 2 tb rfl ?_
 refine sy (.int (us.length:Nat)) (fun h=>ZcN (by rw[List.length_map]) ZbA rfl (Zi h.x (mo 0 rfl)) (h.get 0 rfl) h.x) ?_
 refine sy (.int (us.length-1:Nat)) (fun h=>Znx (i:=us.length) (j:=1) rfl (h.get 0 rfl) (Rel.of_lit (.int .i64 1)) sfz sfz h.x) ?_
 refine sy (.lit (XG v ((us.length-1)*2))) (fun h=>Y6 (i:=((us.length-1:Nat):Int)) Xz rfl (Zi h.x (mo 0 rfl)) (h.get 3 rfl) (h.get 0 rfl) (Int.natCast_nonneg _) (by rw[List.length_map];exact Int.ofNat_lt.2 sfz) h.x) ?_
 refine sy (.lit (XG v ((us.length-1)*2+1))) (fun h=>ZlK Zjo rfl (Zi h.x (mo 0 rfl)) (by rw[List.length_map];exact Nat.lt_of_le_of_lt (Nat.zero_le _) sfz) (h.get 0 rfl) h.x) ?_
 refine Zlv (i:=us.length-1) (j:=1) (c:=lB true) hJ hJ0 ZaA rfl rfl rfl (Q4 (xs:=us) (k:=us.length-1) sfz) (lb rfl) (fun a w h=>⟨(h.get 0 rfl),(Rel.of_lit (.bool true))⟩) ?_
 rw[show(us.map ltC).set (us.length-1) ((ltC (ge us (us.length-1))).set 1 (lB true))=(us.set (us.length-1) (⟨(ge us (us.length-1)).number,true⟩:Lt)).map ltC from by rw[List.map_set];rfl]
 refine seK [6,7,8,9,10] U5 rfl ?_
 refine nx (qpo tb hJ (r5 [1000]) [_] U6 ?_)
 refine nx (Yu tb hJ [0,2,3,4,5,1002] [_,.int (p+1:Nat),_] [1] U6 rfl ⟨Ya,trivial⟩ ?_)
 exact YH (p+1,m,ins,false,us.set (us.length-1) (⟨(ge us (us.length-1)).number,true⟩:Lt),v) [0,5,1,2,4,3] ⟨by omega,⟨by omega,by omega⟩,e5,by first | (simp;omega) | omega⟩
 try simp at hb6
 have e6:¬ (ge s.data.toList p).toNat=90:=by omega
 refine qso tb hJ [0,1,2,3,5,1001] [_,_] U6 ?_
 refine cj 5 (fun hb8=>?_) fun hb8=>?_
 try simp at hb8
 have e8:(ge s.data.toList p).toNat=63:=by omega
 refine Zf (qso tb hJ (r5 [1000]) [_] U6 ?_)
 refine cj 5 (fun hb9=>?_) fun hb9=>?_
 try simp at hb9
 have e7:=ZkD f1_3 e1 e2 e4 e6 (fun e=>by simp_all)
 refine qso tb hJ [1000,1001] [_,_] [_,_] ?_
 refine tw (fun h=>Z3 h (m:=0) (s:=2) rfl) ?_
 refine tw ZM ?_
 exact Ze (fun a w h=>Zcq  (m:=0) (k:=1) ⟨(([]:List Lt),false),by first | exact⟨by rw[e7];rfl,fun h=>by rw[e7]at h;cases h⟩ | exact⟨by rw[e7],fun _=>by rw[e7]⟩⟩ rfl h rfl rfl (Zt4 rfl rfl))
 try simp at hb9
 have e5:=invR_Q f1_3 e1 e8 (by simpa using hb9)
 refine Zb (nx (tsq ?_))
 refine snK 1 tb rfl ?_
 refine sy (.agg (ltC (⟨0,false⟩:Lt))) (fun h=>Yh (ps:=[]) (us:=[.int .i64 0,.bool false]) Zf6 rfl (by simp) Zdd rfl (YB (.lit _ True.intro) (YB (.lit _ True.intro) ZJ)) h.x) ?_
 refine sy (.rd (Zhg ([(⟨0,false⟩:Lt)]))) (fun h=>Y7 Xz ZjM (by decide) rfl rfl (h.get 0 rfl) (Zp hS _ h.keep h.x _ (Nat.le_refl _)) (jo hJ h.x)) ?_
 refine ZR (f:=ltC) (m:=2) (s:=68) us ([(⟨0,false⟩:Lt)]) (fun _=>rfl) Zfe hJ hJ0 rfl rfl rfl (lb rfl) rfl rfl (fun a w h=>(h.get 0 rfl)) sfz sfz fun v3=>?_
 refine snK 1 tb rfl ?_
 refine seK [0,2,5,6,7,8] U6 rfl ?_
 refine nx (ln 1 fun hl2=>?_)
 refine qpo tb hJ [0,2,3,4,5,1000] [_] U6 ?_
 refine nx (Yu tb hJ [0,1,3,4,5,1002] [_,.int (p+1:Nat),_] [1] U6 rfl ⟨Ya,trivial⟩ ?_)
 exact YH (p+1,m,ins,false,us++([(⟨0,false⟩:Lt)]),v3) [1,5,2,3,4,0] ⟨by omega,⟨by omega,by omega⟩,e5,by first | (simp;omega) | omega⟩
 try simp at hb8
 have e7:=ZkD f1_3 e1 e2 e4 e6 (fun e=>by omega)
 refine qso tb hJ [1000,1001] [_,_] [_,_] ?_
 refine tw (fun h=>Z3 h (m:=0) (s:=2) rfl) ?_
 refine tw ZM ?_
 exact Ze (fun a w h=>Zcq  (m:=0) (k:=1) ⟨(([]:List Lt),false),by first | exact⟨by rw[e7];rfl,fun h=>by rw[e7]at h;cases h⟩ | exact⟨by rw[e7],fun _=>by rw[e7]⟩⟩ rfl h rfl rfl (Zt4 rfl rfl))
 try simp at hb1
 have e1:¬ p<s.data.toList.length:=by have h9:s.size=s.data.toList.length:=rfl;omega
 have e7:=Zrs f1_3 e1
 refine Zt (nx (qso tb hJ [1003,1004] U5 [_,_] ?_))
 refine tw (fun h=>ZN hS h (m:=0) (s:=2) rfl) ?_
 exact Ze (fun a w h=>Zcq  (m:=0) (k:=1) ⟨(us,!ins),by first | exact⟨by rw[e7];rfl,fun h=>by rw[e7]at h;cases h⟩ | exact⟨by rw[e7],fun _=>by rw[e7]⟩⟩ rfl h rfl rfl (Zt4 rfl rfl))
theorem ZpF {J:World→Prop} (hJ:Stab J) (t:List BA) (hn:t.length≤100000) (hs:ZaR t≤1000000000):Fn prog J 67 [.rd (Zg t)] (.tup [.rd (Zg ((QS t).1)),.rd (Zhg ((QS t).2.1)),.int ((QS t).2.2)]):=by
 refine Zo (N:=48) Tryz.func67 rfl rfl (lb rfl) fun S w0 hS hJ0=>?_
 refine tw Z1 ?_
 refine ln 0 fun hl1=>?_
 refine qso tb hJ [0] U3 [_] ?_
 refine Zf (ZG tb hJ [0,1002] [_,.bool (QW t),_] [1] [_,_] rfl ⟨iFo hS hJ (ZdQ hJ t) Zpm,trivial⟩ ?_)
 refine cj 1 (fun hb1=>?_) fun hb1=>?_
 try simp at hb1
 have e7:=le_2 (t:=t) (by simpa using hb1)
 refine qso tb hJ [1000,1001,1002] U3 U3 ?_
 refine tw (fun h=>Z3 h (m:=0) (s:=2) rfl) ?_
 refine tw (fun h=>Z3 h (m:=1) (s:=3) rfl) ?_
 exact Ze (fun a w h=>Zaq (m:=1) (k:=0) (l:=2) rfl (ZP h) rfl rfl rfl (congrArg (fun z=>AV.rd (Zg z)) (show([]:List BA)=((QS t).1)from by first | (rw[e7];done) | (rw[e7];rfl) | (rw[e7];exact e6))) (congrArg (fun z=>AV.rd (Zhg z)) (show([]:List Lt)=((QS t).2.1)from by first | (rw[e7];done) | (rw[e7];rfl) | (rw[e7];exact e6))) (eI (by first | (rw[e7];done) | (rw[e7];rfl) | (rw[e7];exact e6))))
 try simp at hb1
 have h0:QW t=true:=by simpa using hb1
 refine Zb (nx (ZG tb hJ [0,1002] [_,.int (Yp (isV (⟨#[41]⟩:BA)) t),_] [1] [_,_] rfl ⟨iFo hS hJ (Zg3 hJ t (⟨#[41]⟩:BA)) ZgY,trivial⟩ ?_))
 refine Zf (ZG tb hJ [0,1,1014] [_,_,_,_,_,.rd (Zg ((t.take ((Yp (isV (⟨#[41]⟩:BA)) t).toNat)).drop 1)),.bool (((t.take ((Yp (isV (⟨#[41]⟩:BA)) t).toNat)).drop 1).all QE),_,_,_,_,_,.rd (Zg ((t.take ((Yp (isV (⟨#[41]⟩:BA)) t).toNat)).drop 1)),.bool (Qw ((t.take ((Yp (isV (⟨#[41]⟩:BA)) t).toNat)).drop 1)),_] [5,6,12,13] U3 rfl ⟨fun _ _ _ hx hl hc=>Yy (ys:=(t.take ((Yp (isV (⟨#[41]⟩:BA)) t).toNat)).drop 1) (lo:=1) (hi:=(Yp (isV (⟨#[41]⟩:BA)) t).toNat) rfl Zd (fun _=>rfl) rfl (hl.D 3 16 rfl hc) (Rel.of_lit (.int .i64 1)) (Znp (by have hc':((decide (Yp (isV (⟨#[41]⟩:BA)) t< (0:Int)))==false)=true:=hc;(try simp at hc');(first | omega | (have h9:=hc'.1;omega))) (hl.D 4 17 rfl hc)) (by have hc':((decide (Yp (isV (⟨#[41]⟩:BA)) t< (0:Int)))==false)=true:=hc;(try simp at hc');(have h8:=ZeI h0 (show ¬ Yp (isV ⟨#[41]⟩) t<0 from by first | omega | (have h9:=hc'.1;omega));omega)) (by have hc':((decide (Yp (isV (⟨#[41]⟩:BA)) t< (0:Int)))==false)=true:=hc;(try simp at hc');(have h8:=ZeI h0 (show ¬ Yp (isV ⟨#[41]⟩) t<0 from by first | omega | (have h9:=hc'.1;omega));omega)) hx,iFo hS hJ (ZsM hJ ((t.take ((Yp (isV (⟨#[41]⟩:BA)) t).toNat)).drop 1)) ZsB,fun _ _ _ hx hl hc=>Yy (ys:=(t.take ((Yp (isV (⟨#[41]⟩:BA)) t).toNat)).drop 1) (lo:=1) (hi:=(Yp (isV (⟨#[41]⟩:BA)) t).toNat) rfl Zd (fun _=>rfl) rfl (hl.D 10 23 rfl hc) (Rel.of_lit (.int .i64 1)) (Znp (by have hc':(((decide (Yp (isV (⟨#[41]⟩:BA)) t< (0:Int)))|| (!(((t.take ((Yp (isV (⟨#[41]⟩:BA)) t).toNat)).drop 1).all QE)))==false)=true:=hc;(try simp at hc');(first | omega | (have h9:=hc'.1;omega))) (hl.D 11 24 rfl hc)) (by have hc':(((decide (Yp (isV (⟨#[41]⟩:BA)) t< (0:Int)))|| (!(((t.take ((Yp (isV (⟨#[41]⟩:BA)) t).toNat)).drop 1).all QE)))==false)=true:=hc;(try simp at hc');(have h8:=ZeI h0 (show ¬ Yp (isV ⟨#[41]⟩) t<0 from by first | omega | (have h9:=hc'.1;omega));omega)) (by have hc':(((decide (Yp (isV (⟨#[41]⟩:BA)) t< (0:Int)))|| (!(((t.take ((Yp (isV (⟨#[41]⟩:BA)) t).toNat)).drop 1).all QE)))==false)=true:=hc;(try simp at hc');(have h8:=ZeI h0 (show ¬ Yp (isV ⟨#[41]⟩) t<0 from by first | omega | (have h9:=hc'.1;omega));omega)) hx,iFo hS hJ (Zwd hJ ((t.take ((Yp (isV (⟨#[41]⟩:BA)) t).toNat)).drop 1)) ZsA,trivial⟩ ?_)
 refine cj 2 (fun hb2=>?_) fun hb2=>?_
 have e7:=Zu0 h0 hb2
 refine qso tb hJ [1000,1001,1002] U3 U3 ?_
 refine tw (fun h=>Z3 h (m:=0) (s:=2) rfl) ?_
 refine tw (fun h=>Z3 h (m:=1) (s:=3) rfl) ?_
 exact Ze (fun a w h=>Zaq (m:=1) (k:=0) (l:=2) rfl (ZP h) rfl rfl rfl (congrArg (fun z=>AV.rd (Zg z)) (show([]:List BA)=((QS t).1)from by first | (rw[e7];done) | (rw[e7];rfl) | (rw[e7];exact e6))) (congrArg (fun z=>AV.rd (Zhg z)) (show([]:List Lt)=((QS t).2.1)from by first | (rw[e7];done) | (rw[e7];rfl) | (rw[e7];exact e6))) (eI (by first | (rw[e7];done) | (rw[e7];rfl) | (rw[e7];exact e6))))
 obtain⟨e1,e3,e8⟩:=Zrh hb2
 have e2:=ZeI h0 e1
 refine Zb (nx (tw (sa 1 rfl (congrArg AV.int (show Yp (isV (⟨#[41]⟩:BA)) t=(((Yp (isV ⟨#[41]⟩) t).toNat:Nat):Int)from by omega))) ?_))
 refine tsq ?_
 refine snK 2 tb rfl ?_
 refine sy (.int ((Yp (isV ⟨#[41]⟩) t).toNat+1:Nat)) (fun h=>Zfo (i:=(((Yp (isV ⟨#[41]⟩) t).toNat:Nat):Int)) (j:=(1:Int)) rfl (h.get 0 rfl) (Rel.of_lit (.int .i64 1)) sfz sfz h.x) ?_
 refine sy (.rd (Zg (t.drop ((Yp (isV ⟨#[41]⟩) t).toNat+1)))) (fun h=>Yy (ys:=t.drop ((Yp (isV ⟨#[41]⟩) t).toNat+1)) (lo:=(Yp (isV ⟨#[41]⟩) t).toNat+1) (hi:=t.length) (by rw[List.take_length]) Zd (fun _=>rfl) rfl (h.get 2 rfl) (h.get 0 rfl) rfl sfz sfz h.x) ?_
 refine sy (.str (Zbh (t.drop ((Yp (isV ⟨#[41]⟩) t).toNat+1)) ⟨#[]⟩)) (fun h=>Zbw (ZpB hJ (t.drop ((Yp (isV ⟨#[41]⟩) t).toNat+1)) (by exact Nat.le_trans (ZcG _ _) hs)) Zpk rfl (Zp hS _ h.keep h.x) (h.x.1) (Za (h.get 0 rfl) Zh) (jo hJ h.x)) ?_
 refine X0 (O:=[]) (R:=[]) (Zio hJ (Zbh (t.drop ((Yp (isV ⟨#[41]⟩) t).toNat+1)) ⟨#[]⟩) (by exact Nat.le_trans (Zfb _ _) hs)) Zpl rfl rfl rfl (lb rfl) hS hJ0 Zy (fun a w h=>(Za (h.get 0 rfl) Zh)) fun z1=>?_
 refine snK 5 tb rfl ?_
 refine seK [0,1,3,7,11,12] U6 rfl ?_
 refine nx (ln 1 fun hl2=>?_)
 refine ln 3 fun hl3=>?_
 refine Zf (qso tb hJ [1,4,5,1001] [_,_] U4 ?_)
 refine cj 3 (fun hb3=>?_) fun hb3=>?_
 try simp at hb3
 have e4:(Zj (Yb t)).2=true:=by have h9:z1.1.2= !(Zj (Yb t)).2:=z1.2.1;rw[show z1.1.2=false from by simpa using hb3]at h9;simpa using h9.symm
 have e7:=le_21 h0 e3 e8 e4
 refine qso tb hJ [1000,1001,1002] U3 U3 ?_
 refine tw (fun h=>Z3 h (m:=0) (s:=2) rfl) ?_
 refine tw (fun h=>Z3 h (m:=1) (s:=3) rfl) ?_
 exact Ze (fun a w h=>Zaq (m:=1) (k:=0) (l:=2) rfl (ZP h) rfl rfl rfl (congrArg (fun z=>AV.rd (Zg z)) (show([]:List BA)=((QS t).1)from by first | (rw[e7];done) | (rw[e7];rfl) | (rw[e7];exact e6))) (congrArg (fun z=>AV.rd (Zhg z)) (show([]:List Lt)=((QS t).2.1)from by first | (rw[e7];done) | (rw[e7];rfl) | (rw[e7];exact e6))) (eI (by first | (rw[e7];done) | (rw[e7];rfl) | (rw[e7];exact e6))))
 try simp at hb3
 have e5:(Zj (Yb t)).2=false:=by have h9:z1.1.2= !(Zj (Yb t)).2:=z1.2.1;rw[show z1.1.2=true from by simpa using hb3]at h9;simpa using h9.symm
 have e6:z1.1.1=(Zj (Yb t)).1:=z1.2.2 e5
 refine Zb (nx (Zf (ZG tb hJ [0,1,2,1002] [_,.int (z1.1.1.length:Nat),_] [1] U4 rfl ⟨Z2 ZbA,trivial⟩ ?_)))
 refine cj 3 (fun hb4=>?_) fun hb4=>?_
 try simp at hb4
 have e7:=le_10 h0 e3 e8 e5 (show 2000< (Zj (Yb t)).1.length from by rw[←e6];omega)
 refine qso tb hJ [1000,1001,1002] U3 U3 ?_
 refine tw (fun h=>Z3 h (m:=0) (s:=2) rfl) ?_
 refine tw (fun h=>Z3 h (m:=1) (s:=3) rfl) ?_
 exact Ze (fun a w h=>Zaq (m:=1) (k:=0) (l:=2) rfl (ZP h) rfl rfl rfl (congrArg (fun z=>AV.rd (Zg z)) (show([]:List BA)=((QS t).1)from by first | (rw[e7];done) | (rw[e7];rfl) | (rw[e7];exact e6))) (congrArg (fun z=>AV.rd (Zhg z)) (show([]:List Lt)=((QS t).2.1)from by first | (rw[e7];done) | (rw[e7];rfl) | (rw[e7];exact e6))) (eI (by first | (rw[e7];done) | (rw[e7];rfl) | (rw[e7];exact e6))))
 try simp at hb4
 have e7:=le_ok h0 e3 e8 e5 (show ¬ 2000< (Zj (Yb t)).1.length from by rw[←e6];omega)
 refine Zb (nx (Zf (ZE (Xp Zd hJ rfl rfl rfl (lb rfl) fun v2=>?_))))
 refine snK 2 tb rfl ?_
 refine sy (.rd (Zg ((t.take ((Yp (isV ⟨#[41]⟩) t).toNat)).drop 1))) (fun h=>Yy (ys:=(t.take ((Yp (isV ⟨#[41]⟩) t).toNat)).drop 1) (lo:=1) (hi:=(Yp (isV ⟨#[41]⟩) t).toNat) rfl Zd (fun _=>rfl) rfl (h.get 1 rfl) (Rel.of_lit (.int .i64 1)) (h.get 0 rfl) sfz sfz h.x) ?_
 refine ZR (f:=Zad) (m:=3) (s:=42) ([]:List BA) ((t.take ((Yp (isV ⟨#[41]⟩) t).toNat)).drop 1) (fun _=>rfl) Xh hJ hJ0 rfl rfl rfl (lb rfl) rfl rfl (fun a w h=>(h.get 0 rfl)) sfz sfz fun v3=>?_
 refine snK 4 tb rfl ?_
 refine seK [0,1,2,5] U4 rfl ?_
 refine nx (ln 3 fun hl4=>?_)
 refine tw (fun h=>ZN hS h (m:=2) (s:=2) rfl) ?_
 exact Ze (fun a w h=>Zaq (m:=0) (k:=2) (l:=1) rfl (ZP h) rfl rfl rfl (congrArg (fun z=>AV.rd (Zg z)) (show(([]:List BA)++((t.take ((Yp (isV ⟨#[41]⟩) t).toNat)).drop 1))=((QS t).1)from by first | (rw[e7];done) | (rw[e7];rfl) | (rw[e7];exact e6))) (congrArg (fun z=>AV.rd (Zhg z)) (show z1.1.1=((QS t).2.1)from by first | (rw[e7];done) | (rw[e7];rfl) | (rw[e7];exact e6))) (eI (by first | (rw[e7];done) | (rw[e7];rfl) | (rw[e7];exact e6))))
end Go.Proofs.YtneapgbkkkjagaaGreatDoor
namespace Go.Proofs.YtneapgbkkkjagaaGreatDoor
def okT (g:Fr):Prop:=0<g.text.length∧∀ h∈g.hyps,h.floating=true→¬ ge h.text 1=ge g.text 0
theorem Zwp {g:Fr} (hg:okT g) (sk:List (List BA)) (b:Nat):1≤(XN (ZW (YU g.hyps sk b g.hyps.length)) g.text).length:=by
 obtain⟨h0,h1⟩:=hg
 have h2:ZZ (ZW (YU g.hyps sk b g.hyps.length)) (ge g.text 0)=none:=by
  rw[ZcV,List.find?_eq_none.2,Option.map_none]
  intro x hx
  obtain⟨j,hj,he⟩:=List.mem_filterMap.1 hx
  have hj:j<g.hyps.length:=by simpa using hj
  unfold ZpK at he
  split at he
  · rename_i hf
    cases he
    simpa using h1 _ (Zv hj) hf
  · cases he
 have h3:=YZ (M:=ZW (YU g.hyps sk b g.hyps.length)) h0
 have h4:=XM (ZW (YU g.hyps sk b g.hyps.length)) g.text 1
 rw[h3,List.length_append]at h4
 simp only[Yw,h2,List.length_singleton]at h4
 omega
def Zce (xs:List Itm) (k:Nat):Nat:=((xs.take k).filter (·.tagged)).length
theorem Zlq {xs:List Itm} {k:Nat} (h:k<xs.length):Zce xs (k+1)=if(ge xs k).tagged=true then Zce xs k+1 else Zce xs k:=by
 unfold Zce
 rw[Z0 h,List.filter_append,List.length_append]
 by_cases h2:(ge xs k).tagged=true<;>simp[h2]
theorem Zqg (xs:List Itm) (k:Nat):Zce xs k≤k:=by
 unfold Zce
 have:=List.length_filter_le (·.tagged) (xs.take k)
 have:=List.length_take_le k xs
 omega
def ZuS (fs:List Fr) (xs:List Itm):Prop:=xs.length≤2000∧∀ k,k<xs.length→okI fs.length (Zce xs k) (ge xs k)∧((ge xs k).kind=1→1≤(ge xs k).text.length∧(ge xs k).text.length≤2000)
structure Zmy (xs:List Itm) (m:Ms):Prop where
 sk:∀ t∈m.sk,1≤t.length∧t.length≤2000
 tg:∀ t∈m.tg,1≤t.length∧t.length≤2000
 skn:m.sk.length≤m.n
 tgn:m.tg.length=Zce xs m.n
 n:m.n≤xs.length
 kn:m.kn=false→m.n<xs.length
theorem ZtU {vars:List BA} {wide:List Pr} {g:Fr} {sk:List (List BA)} {b:Nat} {t:List BA} (hg:okT g) (h:Zfz vars wide g sk b= .ok t):1≤t.length∧t.length≤2000:=by
 unfold Zfz at h
 split at h
 · cases h
 split at h
 · cases h
 split at h
 · cases h
 split at h
 · cases h
 · rename_i h3 _
   injection h with h
   subst h
   simp only[ZaS,Bool.not_eq_true',decide_eq_false_iff_not,Nat.not_le,Nat.not_lt]at h3
   exact⟨Zwp hg sk b,h3⟩
theorem Zro {fs:List Fr} {vars:List BA} {f:Fr} {sk tg s:List (List BA)} {x:Itm} (hfs:∀ g∈fs,okT g) (hx:okI fs.length tg.length x) (hx1:x.kind=1→1≤x.text.length∧x.text.length≤2000) (hs:∀ t∈sk,1≤t.length∧t.length≤2000) (ht:∀ t∈tg,1≤t.length∧t.length≤2000) (h:Xk fs vars f sk tg x= .ok s):∀ t∈s,1≤t.length∧t.length≤2000:=by
 unfold Xk at h
 split at h
 · rename_i hk
   injection h with h
   subst h
   intro t h2
   rcases List.mem_append.1 h2 with h2 | h2
   · exact hs t h2
   · rw[List.mem_singleton.1 h2];exact hx1 hk
 split at h
 · rename_i _ hk
   have h9:=hx.2.2.1 hk
   unfold Zdh at h
   split at h
   · cases h
   split at h
   · cases h
   · rename_i u hu
     injection h with h
     subst h
     intro t h2
     rcases List.mem_append.1 h2 with h2 | h2
     · exact hs t (List.mem_of_mem_take h2)
     · rw[List.mem_singleton.1 h2];exact ZtU (hfs _ (Zv (by omega))) hu
 split at h
 · rename_i _ _ hk
   have h9:=hx.2.2.2 hk
   injection h with h
   subst h
   intro t h2
   rcases List.mem_append.1 h2 with h2 | h2
   · exact hs t h2
   · rw[List.mem_singleton.1 h2];exact ht _ (Zv (by omega))
 split at h<;>cases h
theorem Zgm {fs:List Fr} {vars:List BA} {f:Fr} {xs:List Itm} {m:Ms} (hfs:∀ g∈fs,okT g) (hxs:ZuS fs xs) (h:Zmy xs m):Zmy xs (Ym fs vars f xs m):=by
 obtain⟨sk,tg,n,kn,v,did⟩:=m
 obtain⟨h1,h2,h3,h4,h5,h6⟩:=h
 simp only at h1 h2 h3 h4 h5 h6
 cases hk:kn with
 | true=>rw[Zd0 rfl];exact⟨h1,h2,h3,h4,h5,fun e=>by cases e⟩
 | false=>
  have hn:=h6 hk
  obtain⟨hx,hx1⟩:=hxs.2 n hn
  rw[←h4]at hx
  cases hd:Xk fs vars f sk tg (ge xs n)with
  | error c=>rw[ZcI rfl hd];exact⟨h1,h2,h3,h4,h5,fun e=>by cases e⟩
  | ok s=>
   rw[ZcH rfl hd]
   have hs:=Zro hfs hx hx1 h1 h2 hd
   have hl:=Zh1 hd
   have hT:∀ t∈(if(ge xs n).tagged=true then tg++[ge s ((s.length:Int)-1).toNat]else tg),1≤t.length∧t.length≤2000:=by
    intro t ht
    split at ht
    · rcases List.mem_append.1 ht with ht | ht
      · exact h2 t ht
      · rw[List.mem_singleton.1 ht];exact hs _ (Zv (by omega))
    · exact h2 t ht
   have hN:(if(ge xs n).tagged=true then tg++[ge s ((s.length:Int)-1).toNat]else tg).length=Zce xs (n+1):=by
    rw[Zlq hn]
    split<;>simp[h4]
   revert hT hN
   generalize (if(ge xs n).tagged=true then tg++[ge s ((s.length:Int)-1).toNat]else tg)=tg'
   intro hT hN
   unfold Zb9
   split
   · rename_i hlt
     exact⟨hs,hT,by simp only;omega,hN,by simp only;omega,fun _=>hlt⟩
   · exact⟨hs,hT,by simp only;omega,hN,by simp only;omega,fun e=>by cases e⟩
def ZgL (M:List (BA×Int)) (N:Nat):Prop:=∀ s n,ZZ M s=some n→0≤n∧n< (N:Int)
def Zia (f:Fr):Prop:=∀ h∈f.hyps++f.dummies,1≤h.text.length∧h.text.length≤2000
def okJ (N t:Nat) (x:Itm):Prop:=okI N t x∧(x.kind=1→1≤x.text.length∧x.text.length≤2000)
theorem Zkv {f:Fr} {M:List (BA×Int)} {N:Nat} (hM:ZgL M N) (hf:Zia f) (t:Nat) (s:BA):okJ N t (Yn f M s)∧(Yn f M s).tagged=false:=by
 unfold Yn
 split
 · exact⟨⟨⟨by simp,by simp,by simp,by simp⟩,by simp⟩,rfl⟩
 split
 · rename_i h hh
   have:=hf h (List.mem_of_find?_eq_some hh)
   exact⟨⟨⟨by simp,by simp,by simp,by simp⟩,fun _=>this⟩,rfl⟩
 split
 · rename_i n hn
   have:=hM s n hn
   exact⟨⟨⟨by simp,by simp,fun _=>this,by simp⟩,by simp⟩,rfl⟩
 · exact⟨⟨⟨by simp,by simp,by simp,by simp⟩,by simp⟩,rfl⟩
theorem Zu3 {f:Fr} {M:List (BA×Int)} {N t:Nat} (hM:ZgL M N) (hf:Zia f) {labels:List BA} {l:Lt} (hl:0≤l.number) {x:Itm} (h:Q2 f M labels t l=some x):okJ N t x∧x.tagged=l.tagged:=by
 unfold Q2 at h
 split at h
 · cases h;exact⟨⟨⟨by simp,by simp,by simp,by simp⟩,by simp⟩,rfl⟩
 split at h
 · cases h
   have:=hf (ge f.hyps (l.number-1).toNat) (List.mem_append_left _ (Zv (by omega)))
   exact⟨⟨⟨by simp,by simp,by simp,by simp⟩,fun _=>this⟩,rfl⟩
 split at h
 · cases h
   obtain⟨h1,_⟩:=Zkv hM hf t (ge labels (l.number-1-f.hyps.length).toNat)
   exact⟨⟨⟨h1.1.1,h1.1.2.1,h1.1.2.2.1,h1.1.2.2.2⟩,h1.2⟩,rfl⟩
 split at h
 · cases h
   exact⟨⟨⟨by simp,by simp,by simp,fun _=>by simp only;omega⟩,by simp⟩,rfl⟩
 · cases h
theorem Zlr (x:Itm) (xs:List Itm) (k:Nat):Zce (x::xs) (k+1)=(if x.tagged=true then 1 else 0)+Zce xs k:=by
 unfold Zce
 rw[List.take_succ_cons,List.filter_cons]
 split<;>simp[Nat.add_comm]
theorem ZkA {f:Fr} {M:List (BA×Int)} {N:Nat} (hM:ZgL M N) (hf:Zia f) {labels:List BA}:∀ {ls:List Lt} {t:Nat} {xs:List Itm},(∀ l∈ls,0≤l.number)→Y8 f M labels ls t=some xs→∀ k,k<xs.length→okJ N (t+Zce xs k) (ge xs k)
 | [],t,xs,_,h,k,hk=>by
  simp only[Y8,Option.some.injEq]at h
  subst h
  simp at hk
 | l::r,t,xs,hl,h,k,hk=>by
  unfold Y8 at h
  split at h
  · cases h
  rename_i x hx
  split at h
  · cases h
  rename_i ys hys
  cases h
  obtain⟨h1,h2⟩:=Zu3 hM hf (hl l (by simp)) hx
  cases k with
  | zero=>exact h1
  | succ k=>
   have h3:=ZkA hM hf (fun l hl'=>hl l (by simp[hl'])) hys k (by simpa using hk)
   rw[Zvb,Zlr,h2]
   split
   · rename_i ht
     rw[if_pos ht]at h3
     rw[←Nat.add_assoc]
     exact h3
   · rename_i ht
     rw[if_neg ht]at h3
     rw[Nat.zero_add]
     exact h3
theorem QJ:∀(m:Nat) (bs:List UInt8) (n:Int) (ins:Bool),bs.length≤m→0≤n→∀ l∈(lettersD bs n ins).1,0≤l.number:=by
 intro m
 induction m with
 | zero=>
  intro bs n ins hm _ l hl
  have:bs=[]:=List.length_eq_zero_iff.1 (by omega)
  subst this
  simp[lettersD]at hl
 | succ m ih=>
  intro bs n ins hm hn l hl
  cases bs with
  | nil=>simp[lettersD]at hl
  | cons b r=>
   simp only[List.length_cons]at hm
   rw[ZaG]at hl
   split at hl
   · split at hl
     · simp at hl
     · rename_i hb _
       simp only[Bool.and_eq_true,decide_eq_true_eq]at hb
       exact ih r _ _ (by omega) (by omega) l hl
   split at hl
   · rename_i hb
     simp only[Bool.and_eq_true,decide_eq_true_eq]at hb
     split at hl
     · simp at hl
     · split at hl
       · simp only[List.mem_singleton]at hl
         subst hl
         simp only
         omega
       · rename_i c r'
         simp only[List.length_cons]at hm
         split at hl
         · rcases List.mem_cons.1 hl with rfl | hl
           · simp only;omega
           · exact ih r' _ _ (by omega) (by omega) l hl
         · rcases List.mem_cons.1 hl with rfl | hl
           · simp only;omega
           · exact ih (c::r') _ _ (by simp only[List.length_cons];omega) (by omega) l hl
   split at hl
   · rcases List.mem_cons.1 hl with rfl | hl
     · simp
     · exact ih r _ _ (by omega) hn l hl
   · simp at hl
theorem Zul {fs:List Fr} {f:Fr} {M:List (BA×Int)} {proof:List BA} {xs:List Itm} (hM:ZgL M fs.length) (hf:Zia f) (h:YW f M proof= .ok xs):ZuS fs xs:=by
 unfold YW at h
 split at h
 · split at h
   · cases h
   · rename_i hl
     injection h with h
     subst h
     refine⟨by simp;omega,fun k hk=>?_⟩
     have hk':k<proof.length:=by simpa using hk
     have he:ge (proof.map (Yn f M)) k=Yn f M (ge proof k):=by rw[Xd hk,Xd hk',List.getElem_map]
     rw[he]
     exact(Zkv hM hf _ _).1
 split at h
 · cases h
 rename_i labels text _
 split at h
 · cases h
 split at h
 · cases h
 rename_i ys hys
 split at h
 · cases h
 split at h
 · cases h
 · rename_i hl
   injection h with h
   subst h
   refine⟨by omega,fun k hk=>?_⟩
   have:=ZkA hM hf (QJ _ _ 0 false (Nat.le_refl _) (Int.le_refl _)) hys k hk
   rw[Nat.zero_add]at this
   exact this
theorem Zm1 {fs:List Fr} {f:Fr} {r:Except Int (List Itm)} (h:∀ xs,r= .ok xs→ZuS fs xs):ZuS fs (Qx f r).1∧Zmy (Qx f r).1 (Qx f r).2:=by
 cases r with
 | error c=>exact⟨⟨by simp[Qx],fun k hk=>by simp[Qx]at hk⟩,⟨by simp[Qx],by simp[Qx],by simp[Qx],by simp[Qx,Zce],by simp[Qx],by simp[Qx]⟩⟩
 | ok xs=>
  refine⟨h xs rfl,?_⟩
  unfold Qx Zb9
  simp only
  split
  · rename_i hlt
    exact⟨by simp,by simp,by simp,by simp[Zce],by simp,fun _=>hlt⟩
  · exact⟨by simp,by simp,by simp,by simp[Zce],by simp,fun e=>by cases e⟩
section
variable {fs:List Fr} {vars:List BA} {f:Fr} {xs:List Itm} {m:Ms}
theorem Ztc (h:m.kn=true):(Ym fs vars f xs m).v=m.v∧(Ym fs vars f xs m).kn=true:=by
 obtain⟨sk,tg,n,kn,v,did⟩:=m
 simp only at h
 subst h
 rw[Zd0 rfl]
 exact⟨rfl,rfl⟩
theorem Ztg:∀(j:Nat) (m:Ms),m.kn=true→(ZaU fs vars f xs j m).v=m.v
 | 0,_,_=>rfl
 | j+1,m,h=>by
  show(ZaU fs vars f xs j (Ym fs vars f xs m)).v=m.v
  rw[Ztg j _ (Ztc h).2,(Ztc h).1]
theorem Zdn (h:Zmy xs m):((Ym fs vars f xs m).did=false∧(Ym fs vars f xs m).kn=true∧(m.kn=true→(Ym fs vars f xs m).v=m.v))∨((Ym fs vars f xs m).did=true∧(Ym fs vars f xs m).n=m.n+1∧m.n<xs.length∧m.kn=false):=by
 obtain⟨sk,tg,n,kn,v,did⟩:=m
 cases hk:kn with
 | true=>rw[Zd0 rfl];exact .inl ⟨rfl,rfl,fun _=>rfl⟩
 | false=>
  have hn:=h.kn hk
  simp only at hn
  cases hd:Xk fs vars f sk tg (ge xs n)with
  | error c=>rw[ZcI rfl hd];exact .inl ⟨rfl,rfl,fun e=>by cases e⟩
  | ok s=>
   rw[ZcH rfl hd]
   generalize (if(ge xs n).tagged=true then tg++[ge s ((s.length:Int)-1).toNat]else tg)=tg'
   unfold Zb9
   split
   · exact .inr ⟨rfl,rfl,hn,rfl⟩
   · exact .inr ⟨rfl,rfl,hn,rfl⟩
theorem Zqm (h:Zmy xs m) (hd:(Ym fs vars f xs m).did=false):(ZaU fs vars f xs (xs.length+1-m.n) m).v=(Ym fs vars f xs m).v:=by
 have hn:=h.n
 obtain⟨j,hj⟩:∃ j,xs.length+1-m.n=j+1:=⟨xs.length-m.n,by omega⟩
 rw[hj]
 show(ZaU fs vars f xs j (Ym fs vars f xs m)).v=_
 rcases Zdn (fs:=fs) (vars:=vars) (f:=f) h with h2 | h2
 · exact Ztg j _ h2.2.1
 · rw[h2.1]at hd;cases hd
theorem Zql (h:Zmy xs m) (hd:(Ym fs vars f xs m).did=true):(ZaU fs vars f xs (xs.length+1-m.n) m).v=(ZaU fs vars f xs (xs.length+1-(Ym fs vars f xs m).n) (Ym fs vars f xs m)).v∧(Ym fs vars f xs m).n=m.n+1∧m.n<xs.length:=by
 rcases Zdn (fs:=fs) (vars:=vars) (f:=f) h with h2 | h2
 · rw[h2.1]at hd;cases hd
 · refine⟨?_,h2.2.1,h2.2.2.1⟩
   rw[h2.2.1]
   obtain⟨j,hj⟩:∃ j,xs.length+1-m.n=j+1:=⟨xs.length-m.n,by omega⟩
   rw[hj,show xs.length+1-(m.n+1)=j by omega]
   rfl
theorem Zm0 {r:Except Int (List Itm)}:(Qx f r).2.n=0:=by
 cases r with
 | error c=>rfl
 | ok xs=>unfold Qx Zb9;simp only;split<;>rfl
end
def Y3 (d:Db) (n:Nat) (t:List BA):List Itm:=(Qx (ge d.frames n) (YW (ge d.frames n) (Q8 (d.frames.take n)) t)).1
def X9 (d:Db) (n:Nat) (t:List BA):Ms:=(Qx (ge d.frames n) (YW (ge d.frames n) (Q8 (d.frames.take n)) t)).2
theorem verV {d:Db} {n:Nat} {t:List BA}:ZiH d.frames d.vars (ge d.frames n) (Q8 (d.frames.take n)) t=(ZaU d.frames d.vars (ge d.frames n) (Y3 d n t) ((Y3 d n t).length+1) (X9 d n t)).v:=rfl
theorem Zhm {d:Db} {n:Nat} {t:List BA} (hM:ZgL (Q8 (d.frames.take n)) d.frames.length) (hf:Zia (ge d.frames n)):ZuS d.frames (Y3 d n t)∧Zmy (Y3 d n t) (X9 d n t):=Zm1 fun _ h=>Zul hM hf h
section
variable {fs:List Fr} {vars:List BA} {f:Fr} {xs:List Itm} {m:Ms}
theorem Zj1:Ym fs vars f xs ⟨m.sk,m.tg,m.n,m.kn,(m.v.1,m.v.2),false⟩=Ym fs vars f xs m:=rfl
theorem inv_i (h0:ZuS fs xs) (h:Zmy xs m) (e:m.kn=false):m.n<xs.length∧okI fs.length m.tg.length (ge xs m.n):=⟨h.kn e,by rw[h.tgn];exact(h0.2 _ (h.kn e)).1⟩
theorem Zu6 (h0:ZuS fs xs) (h:Zmy xs m):m.sk.length≤2000∧m.tg.length≤2000∧m.n≤2000:=by
 have h1:=h.skn
 have h2:=h.n
 have h3:=h.tgn
 have h4:=Zqg xs m.n
 have h5:=h0.1
 omega
end
theorem ZcT {fs:List Fr} {k:Nat} (h:k<fs.length):Q8 (fs.take (k+1))=Za7 (Q8 (fs.take k)) (ge fs k).label ((k:Nat):Int):=by
 unfold Q8
 rw[Z0 h,List.zipIdx_append,List.foldl_append]
 simp[List.length_take,Nat.min_eq_left (Nat.le_of_lt h)]
theorem ZaX {fs:List Fr}:∀ k,k≤fs.length→ZgL (Q8 (fs.take k)) k
 | 0,_=>fun s n h=>by simp[Q8,QI]at h
 | k+1,hk=>fun s n h=>by
  rw[ZcT (by omega),ZcU]at h
  split at h
  · injection h with h;omega
  · have:=ZaX k (by omega) s n h;omega
theorem Za1 {M:List (BA×Int)} {a b:Nat} (h:ZgL M a) (hab:a≤b):ZgL M b:=fun s n e=>by have:=h s n e;omega
section
variable {d:Db}
theorem chk_fr (h:QK d=0):∀ k,k<d.frames.length→frE d k=0:=by
 unfold QK at h
 split at h
 · cases h
 split at h
 · rename_i h2
   rw[h]at h2
   simp at h2
 · exact Qg h
theorem Zju (h:QK d=0):d.frames.length≤400:=by
 unfold QK at h
 split at h
 · cases h
 rename_i h1
 simp only[Bool.or_eq_true,decide_eq_true_eq,not_or]at h1
 omega
theorem Zvt (h:QK d=0):Zbo d=0:=by
 unfold QK at h
 split at h
 · cases h
 split at h
 · rename_i h2
   rw[h]at h2
   simp at h2
 · rename_i h2
   simpa using h2
theorem ZmX (h:Zbo d=0):∀ v∈d.vars,¬ v∈d.consts:=by
 unfold Zbo at h
 split at h
 · rename_i h2
   rw[h]at h2
   simp at h2
 · intro v hv hc
   obtain⟨j,hj,rfl⟩:=Xj hv
   have:=Qg h j hj
   unfold Zgh at this
   split at this
   · cases this
   split at this
   · cases this
   · rename_i h3
     simp[hc]at h3
theorem Zrv {k:Nat} {y:Hy} {bs:List Hy} {dm:Bool} (h:ZcW d k y bs dm=0):(1≤y.text.length∧y.text.length≤200)∧(y.floating=true→y.text.length=2∧ge y.text 1∈d.vars):=by
 have h1:=ZaZ h
 unfold ZcW at h
 split at h
 · cases h
 split at h
 · cases h
 split at h
 · cases h
 split at h
 · cases h
 rename_i h4
 have h5:y.floating=true→y.text.length=2∧ge y.text 1∈d.vars:=fun hf=>⟨Yx h1 hf,by simp[ZeM,hf]at h4;exact h4.2⟩
 refine⟨?_,h5⟩
 cases hf:y.floating with
 | true=>have:=(h5 hf).1;omega
 | false=>simp[Zat,hf]at h1;have:=List.length_pos_iff.2 h1.2.1;omega
theorem Zvd (hs:Zbo d=0) {k:Nat} (h:frE d k=0):okF (ge d.frames k)∧okT (ge d.frames k)∧Zia (ge d.frames k):=by
 have hz:=ZgM h
 unfold frE ZcX at h
 split at h
 · cases h
 split at h
 · cases h
 split at h
 · cases h
 split at h
 · rename_i h2
   rw[h]at h2
   simp at h2
 rename_i h3
 have h3:Zmu d k=0:=by simpa using h3
 have hy:∀ y∈(ge d.frames k).hyps++(ge d.frames k).dummies,(1≤y.text.length∧y.text.length≤200)∧(y.floating=true→y.text.length=2∧ge y.text 1∈d.vars):=fun y hy=>by
  obtain⟨j,hj,rfl⟩:=Xj hy
  exact Zrv (Qg h3 j hj)
 split at h
 · cases h
 rename_i h4
 split at h
 · rename_i h2
   rw[h]at h2
   simp at h2
 rename_i h5
 have hc:ge (ge d.frames k).text 0∈d.consts:=by
  have h6:Zbt d (ge d.frames k).text=0:=by simpa using h5
  unfold Zbt ZoR at h6
  split at h6
  · rename_i h7
    simp only[Bool.and_eq_true,decide_eq_true_eq]at h7
    exact h7.1
  · cases h6
 have hp:0< (ge d.frames k).text.length:=by
  simp only[Bool.or_eq_true,decide_eq_true_eq,not_or]at h4
  omega
 refine⟨⟨by omega,fun y hy' hf=>((hy y (List.mem_append_left _ hy')).2 hf).1⟩,⟨hp,fun y hy' hf e=>?_⟩,fun y hy'=>⟨(hy y hy').1.1,Nat.le_trans (hy y hy').1.2 (by omega)⟩⟩
 have:=((hy y (List.mem_append_left _ hy')).2 hf).2
 rw[e]at this
 exact ZmX hs _ this hc
theorem Zab (h:QK d=0):∀ g∈d.frames,okF g∧okT g∧Zia g:=fun g hg=>by
 obtain⟨k,hk,rfl⟩:=Xj hg
 exact Zvd (Zvt h) (chk_fr h k hk)
def Zdi (d:Db) (k:Nat):Int×Int:=if(ge d.frames k).thm then ZiH d.frames d.vars (ge d.frames k) (Q8 (d.frames.take k)) (ge d.frames k).proof else(0,0)
def XF (d:Db) (z:Int):(Int×Int)×Int:=if X6 d z=0 then(Zdi d z.toNat,0)else((0,0),X6 d z)
theorem Zlf {z:Int} (h:X6 d z=0):QK d=0∧0≤z∧z< (d.frames.length:Int):=by
 unfold X6 at h
 split at h
 · rename_i h2;exact absurd h h2
 split at h
 · cases h
 · rename_i h1 h2
   exact⟨by simpa using h1,by omega,by omega⟩
end
theorem Zo9 {d:Db} (h:QK d=0):∀ k,k<d.frames.length→frE d k=0:=by
 unfold QK at h
 split at h
 · simp at h
 · split at h
   · rename_i h1;simp[h]at h1
   · exact Qg h
theorem Zve {d:Db} {k:Nat} (h:frE d k=0):frL d k (ge d.frames k).label=false:=by
 unfold frE ZcX at h
 by_cases h1:(!QE (ge d.frames k).label)=true
 · rw[if_pos h1]at h;exact absurd h (by decide)
 rw[if_neg h1]at h
 by_cases h2:((frL d k (ge d.frames k).label||hyL d k (ge d.frames k).label)||Zdj d (ge d.frames k).label)=true
 · rw[if_pos h2]at h;exact absurd h (by decide)
 simp only[Bool.or_eq_true,not_or,Bool.not_eq_true]at h2
 exact h2.1.1
theorem Ztx {d:Db} (h:QK d=0) {p q:Nat} (hpq:p<q) (hq:q<d.frames.length):(ge d.frames p).label≠(ge d.frames q).label:=fun e=>by
 have:=Zve (Zo9 h q hq)
 unfold frL at this
 rw[List.any_eq_false]at this
 refine this (ge d.frames p) ?_ (by simp[e])
 have e2:ge (d.frames.take q) p=ge d.frames p:=by simp[ge,List.getD_eq_getElem?_getD,hpq]
 rw[←e2]
 exact Zv (by rw[List.length_take];omega)
theorem Zu1 {d:Db} (h:QK d=0) {p q:Nat} (hp:p<d.frames.length) (hq:q<d.frames.length) (e:(ge d.frames p).label=(ge d.frames q).label):p=q:=by
 rcases Nat.lt_trichotomy p q with h1 | h1 | h1
 · exact absurd e (Ztx h h1 hq)
 · exact h1
 · exact absurd e.symm (Ztx h h1 hp)
theorem ZgO {α:Type} [Inhabited α] {p:α→Bool}:∀ {l:List α} {k:Nat},k<l.length→(∀ j,j<k→p (ge l j)=false)→p (ge l k)=true→l.find? p=some (ge l k)
 | [],k,h,_,_=>by simp at h
 | x::r,0,_,_,h3=>by
  simp only[Zww]at h3 ⊢
  simp[h3]
 | x::r,k+1,h1,h2,h3=>by
  have h4:=h2 0 (by omega)
  simp only[Zww,Zvb]at h3 h4 ⊢
  rw[List.find?_cons_of_neg (by simp[h4])]
  exact ZgO (by simpa using h1) (fun j hj=>by have:=h2 (j+1) (by omega);simpa only[Zvb]using this) h3
theorem ZoV {α:Type} [Inhabited α] {p:α→Bool} {l:List α} (h:∀ j,j<l.length→p (ge l j)=false):l.find? p=none:=List.find?_eq_none.2 fun x hx=>by
 obtain⟨j,hj,rfl⟩:=Xj hx
 simp[h j hj]
section
variable {l:List Bd} {s:BA} {k:Nat} {t vs:List BA}
theorem ZoF (hk:k<l.length) (h:∀ j,j<k→¬ (ge l j).var=s) (he:(ge l k).var=s):Yw (ZW l) s=(ge l k).text:=by
 unfold Yw
 rw[ZcV,ZgO hk (fun j hj=>by simpa using h j hj) (by simpa using he)]
 rfl
theorem ZkE (h:∀ j,j<l.length→¬ (ge l j).var=s):Yw (ZW l) s=[s]:=by
 unfold Yw
 rw[ZcV,ZoV (fun j hj=>by simpa using h j hj)]
 rfl
theorem ZuT (t vs:List BA):Qu t (Qv vs)=Qu t vs:=by
 have e:ZhU (Qv vs)=ZhU vs:=by
  funext out s
  unfold ZhU
  simp only[mem_lstL]
 unfold Qu
 rw[e]
theorem ZuU {t vs:List BA}:(Qu t vs).length≤t.length:=by
 have key:∀(t out:List BA),(t.foldl (ZhU vs) out).length≤out.length+t.length:=by
  intro t
  induction t with
  | nil=>intro out;simp
  | cons s r ih=>
   intro out
   have h1:=ih (ZhU vs out s)
   have h2:(ZhU vs out s).length≤out.length+1:=by unfold ZhU;split<;>simp
   simp only[List.foldl_cons,List.length_cons]
   omega
 simpa [Qu]using key t []
end
section
variable {M:BM} {pattern text:List BA} {k p:Nat}
theorem Zuj (hk:k<pattern.length) (h:text.take p=XN M (pattern.take k)) (hp:p≤text.length) (hb:¬ ((Yw M (ge pattern k)).length≤text.length-p∧(text.take (p+(Yw M (ge pattern k)).length)).drop p=Yw M (ge pattern k))):¬ XN M pattern=text:=by
 intro e
 apply hb
 have e1:XN M pattern=XN M (pattern.take k)++(Yw M (ge pattern k)++XN M (pattern.drop (k+1))):=by
  rw[←List.append_assoc,←YZ hk,←Zed,List.take_append_drop]
 have hl:(XN M (pattern.take k)).length=p:=by rw[←h,List.length_take];omega
 have e2:text.drop p=Yw M (ge pattern k)++XN M (pattern.drop (k+1)):=by
  rw[←e,e1,List.drop_append_of_le_length (by omega),List.drop_of_length_le (by omega),List.nil_append]
 constructor
 · have:=congrArg List.length e2
   rw[List.length_drop,List.length_append]at this
   omega
 · rw[List.drop_take,Nat.add_sub_cancel_left,e2,List.take_left]
theorem Znn (hk:k<pattern.length) (h:text.take p=XN M (pattern.take k)) (hb:(text.take (p+(Yw M (ge pattern k)).length)).drop p=Yw M (ge pattern k)):text.take (p+(Yw M (ge pattern k)).length)=XN M (pattern.take (k+1)):=by
 have e:=List.take_append_drop p (text.take (p+(Yw M (ge pattern k)).length))
 rw[List.take_take,Nat.min_eq_left (Nat.le_add_right _ _),hb,h]at e
 rw[YZ hk]
 exact e.symm
theorem Zqr (h:text.take p=XN M pattern) (hp:p≤text.length):decide (((p:Nat):Int)=((text.length:Nat):Int))=decide (XN M pattern=text):=ZoU h hp
end
section
variable {l:List Bd} {ap wd:List Pr} {us:List BA} {k:Nat} {x:Pr}
theorem brk_at (hk:k< (Zcf l ap us).length) (h:∀ j,j<k→Zfc wd (ge (Zcf l ap us) j)=false) (hh:Zfc wd (ge (Zcf l ap us) k)=true):ZjG l ap us wd=some (ge (Zcf l ap us) k):=ZgO hk h hh
theorem Zwl (h:∀ j,j< (Zcf l ap us).length→Zfc wd (ge (Zcf l ap us) j)=false):ZjG l ap us wd=none:=ZoV h
theorem Zus (hk:k<wd.length) (h:QB (ge wd k)=x):x∈wd.map QB:=h▸List.mem_map_of_mem (Zv hk)
theorem ZqM (h:∀ j,j<wd.length→¬ QB (ge wd j)=x):¬ x∈wd.map QB:=fun hx=>by
 obtain⟨y,hy,rfl⟩:=List.mem_map.1 hx
 obtain⟨j,hj,rfl⟩:=Xj hy
 exact h j hj rfl
theorem Zoc (l:List Bd) (us:List BA) (s:BA):Qu (Yw (ZW l) s) us=Q5 l us s:=(ZuT _ _).symm
theorem Zkt {s:BA} (hl:∀ b∈l,b.text.length≤2000):(Q5 l us s).length≤2000:=Nat.le_trans ZuU (Zcr (by decide) hl s)
end
def Zcd (vars:List BA) (wide:List Pr) (g:Fr) (es:List (List BA)):List BA×Int:=match Zfz vars wide g es 0 with
 | .ok t=>(t,0)
 | .error c=>([],c)
section
variable {vars:List BA} {wide:List Pr} {g:Fr} {es sk:List (List BA)} {j b:Nat}
theorem ux_24 (hj:j<g.hyps.length) (h:ZeG g.hyps es 0 j=false):Zcd vars wide g es=([],24):=by
 rw[Zcd,Zfz,ZaL hj h];rfl
theorem ux_25 (hk:∀ j,j<g.hyps.length→ZeG g.hyps es 0 j=true) (hj:j<g.hyps.length) (h:Zhf g.hyps es 0 (YU g.hyps es 0 g.hyps.length) j=false):Zcd vars wide g es=([],25):=by
 rw[Zcd,Zfz,Xa hk,ZaL hj h];rfl
variable (hk:∀ j,j<g.hyps.length→ZeG g.hyps es 0 j=true) (hm:∀ j,j<g.hyps.length→Zhf g.hyps es 0 (YU g.hyps es 0 g.hyps.length) j=true)
include hk hm
theorem ux_15 (h:ZaS (ZW (YU g.hyps es 0 g.hyps.length)) g.text 2000=false):Zcd vars wide g es=([],15):=by
 rw[Zcd,Zfz,Xa hk,Xa hm,h];rfl
theorem ux_26 (h:ZaS (ZW (YU g.hyps es 0 g.hyps.length)) g.text 2000=true) (h2:ZdV (YU g.hyps es 0 g.hyps.length) g.apart vars wide=true):Zcd vars wide g es=([],26):=by
 rw[Zcd,Zfz,Xa hk,Xa hm,h,h2];rfl
theorem ux_ok (h:ZaS (ZW (YU g.hyps es 0 g.hyps.length)) g.text 2000=true) (h2:ZdV (YU g.hyps es 0 g.hyps.length) g.apart vars wide=false):Zcd vars wide g es=(XN (ZW (YU g.hyps es 0 g.hyps.length)) g.text,0):=by
 rw[Zcd,Zfz,Xa hk,Xa hm,h,h2];rfl
end
theorem Zji {α:Type} [Inhabited α] (l:List α) (b j:Nat):ge (l.drop b) j=ge l (b+j):=by simp[ge,List.getD_eq_getElem?_getD]
theorem ZmS (vars:List BA) (wide:List Pr) (g:Fr) (sk:List (List BA)) (b:Nat):Zfz vars wide g (sk.drop b) 0=Zfz vars wide g sk b:=by
 have e1:ZeG g.hyps (sk.drop b) 0=ZeG g.hyps sk b:=by funext j;unfold ZeG;rw[Zji,Nat.zero_add]
 have e2:YU g.hyps (sk.drop b) 0 g.hyps.length=YU g.hyps sk b g.hyps.length:=by
  unfold YU
  congr 1
  funext j
  unfold ZpK
  rw[Zji,Nat.zero_add]
 have e3:∀ l,Zhf g.hyps (sk.drop b) 0 l=Zhf g.hyps sk b l:=fun l=>by funext j;unfold Zhf;rw[Zji,Nat.zero_add]
 unfold Zfz
 rw[e1,e2,e3]
theorem ZmR (vars:List BA) (wide:List Pr) (g:Fr) (sk:List (List BA)):Zdh vars wide g sk=if sk.length<g.hyps.length then .error 23 else match Zcd vars wide g (sk.drop (sk.length-g.hyps.length))with
 | (t,c)=>if c=0 then .ok (sk.take (sk.length-g.hyps.length)++[t])else .error c:=by
 unfold Zdh Zcd
 rw[ZmS]
 split
 · rfl
 · have hne:∀ c,Zfz vars wide g sk (sk.length-g.hyps.length)= .error c→c≠0:=fun c hc=>by
    rename_i h0
    exact ZmQ (vars:=vars) (wide:=wide) (g:=g) (sk:=sk) (c:=c) (by rw[Zdh,if_neg h0,hc])
   cases h:Zfz vars wide g sk (sk.length-g.hyps.length)with
   | ok t=>rfl
   | error c=>simp only[if_neg (hne c h)]
structure Ri where
 label:BA
 back:Int
 unk:Bool
instance instInhRi:Inhabited Ri:=⟨⟨⟨#[]⟩,0,false⟩⟩
def riC (x:Ri):List CD:=[.lit (.string x.label),.lit (.int .i64 x.back),.lit (.bool x.unk)]
def Zhe (l:List Ri):CD:=.sl (l.map riC)
def ZlL (t:List BA):List Ri:=t.map fun w=>⟨w, -1,decide (w=⟨#[63]⟩)⟩
theorem ZnE {t:List BA} {k:Nat} (h:k<t.length):ZlL (t.take (k+1))=ZlL (t.take k)++[⟨ge t k, -1,decide (ge t k=⟨#[63]⟩)⟩]:=by
 rw[Z0 h,ZlL,List.map_append];rfl
def Zbs (f:Fr) (labels:List BA) (tags:List Int) (l:Lt):Option Ri:=
 if l.number=0 then some ⟨⟨#[]⟩, -1,true⟩
 else if l.number≤f.hyps.length then some ⟨(ge f.hyps (l.number-1).toNat).label, -1,false⟩
 else if l.number≤(f.hyps.length:Int)+(labels.length:Int)then some ⟨ge labels (l.number-(f.hyps.length:Int)-1).toNat, -1,false⟩
 else if l.number≤(f.hyps.length:Int)+(labels.length:Int)+(tags.length:Int)then some ⟨⟨#[]⟩,ge tags (l.number-(f.hyps.length:Int)-(labels.length:Int)-1).toNat,false⟩
 else none
def Zd5 (f:Fr) (labels:List BA):List Lt→List Ri×List Int→Option (List Ri×List Int)
 | [],q=>some q
 | l::r,q=>match Zbs f labels q.2 l with
  | none=>none
  | some x=>Zd5 f labels r (q.1++[x],if l.tagged then q.2++[((q.1.length:Nat):Int)]else q.2)
section
variable {f:Fr} {labels:List BA} {ls:List Lt} {k:Nat} {q r:List Ri×List Int} {x:Ri}
theorem Zgw (a b:List Lt) (q:List Ri×List Int):Zd5 f labels (a++b) q=(Zd5 f labels a q).bind (Zd5 f labels b):=by
 induction a generalizing q with
 | nil=>rfl
 | cons l a ih=>
  simp only[List.cons_append,Zd5]
  cases Zbs f labels q.2 l with
  | none=>rfl
  | some x=>exact ih _
theorem ZhA (hk:k<ls.length) (h:Zd5 f labels (ls.take k) ([],[])=some q) (hx:Zbs f labels q.2 (ge ls k)=some x):Zd5 f labels (ls.take (k+1)) ([],[])=some (q.1++[x],if(ge ls k).tagged then q.2++[((q.1.length:Nat):Int)]else q.2):=by
 rw[Z0 hk,Zgw,h]
 simp[Zd5,hx]
theorem ZqJ (hk:k<ls.length) (h:Zd5 f labels (ls.take k) ([],[])=some q) (hx:Zbs f labels q.2 (ge ls k)=none):Zd5 f labels ls ([],[])=none:=by
 rw[←List.take_append_drop (k+1) ls,Zgw,Z0 hk,Zgw,h]
 simp[Zd5,hx]
theorem Zki:∀(ls:List Lt) (q r:List Ri×List Int),Zd5 f labels ls q=some r→r.1.length=q.1.length+ls.length∧r.2.length≤q.2.length+ls.length
 | [],q,r,h=>by simp only[Zd5]at h;injection h with h;subst h;simp
 | l::ls,q,r,h=>by
  simp only[Zd5]at h
  split at h
  · cases h
  · have h1:=Zki ls _ r h
    split at h1<;>(simp at h1 ⊢;omega)
end
def Z7 (f:Fr) (t:List BA):List Ri×Int:=
 if !QW t then(if 2000<t.length then([],10)else(ZlL t,0))
 else if(QS t).2.2=20 then([],20)
 else if f.hyps.any fun h=>decide (h.label∈Xg t)then([],20)
 else if(QS t).2.2=21 then([],21)
 else match Zd5 f (Xg t) (Zj (Yb t)).1 ([],[])with
  | none=>([],21)
  | some q=>if(QS t).2.2=0 then(q.1,0)else([],(QS t).2.2)
def Z9 (d:Db) (i:Nat) (s:BA):Int:=match(d.frames.take i).findIdx? (fun f=>decide (f.label=s))with
 | some k=>(k:Int)
 | none=> -1
section
variable {d:Db} {i k j:Nat} {s:BA} {z:Int}
theorem Zjg {α:Type} [Inhabited α] {l:List α} (h:j<i):ge (l.take i) j=ge l j:=by
 simp only[ge,List.getD_eq_getElem?_getD,List.getElem?_take]
 rw[if_pos h]
theorem ZoN {α:Type} [Inhabited α] {l m:List α} {p:Nat} (h:p<l.length):ge (l++m) p=ge l p:=by
 simp only[ge,List.getD_eq_getElem?_getD]
 rw[List.getElem?_append_left h]
theorem Zff (hi:i≤d.frames.length) (hk:k<i) (h0:∀ j,j<k→¬ (ge d.frames j).label=s) (h:(ge d.frames k).label=s):Z9 d i s=(k:Int):=by
 have:(d.frames.take i).findIdx? (fun f=>decide (f.label=s))=some k:=by
  rw[List.findIdx?_eq_some_iff_getElem]
  have hl:k< (d.frames.take i).length:=by rw[List.length_take];omega
  refine⟨hl,?_,fun j hj=>?_⟩
  · rw[←Xd hl,Zjg hk];simpa using h
  · rw[←Xd (show j< (d.frames.take i).length by omega),Zjg (by omega)];simpa using h0 j hj
 rw[Z9,this]
theorem ZdA (h0:∀ j,j<i→¬ (ge d.frames j).label=s):Z9 d i s= -1:=by
 have:(d.frames.take i).findIdx? (fun f=>decide (f.label=s))=none:=by
  rw[List.findIdx?_eq_none_iff]
  intro x hx
  obtain⟨j,hj,hjl,rfl⟩:=mem_take_geF hx
  simpa using h0 j hj
 rw[Z9,this]
where
 mem_take_geF {l:List Fr} {x:Fr} {m:Nat} (h:x∈l.take m):∃ i,i<m∧i<l.length∧ge l i=x:=by
  obtain⟨i,hi,rfl⟩:=List.getElem_of_mem h
  rw[List.length_take]at hi
  exact⟨i,by omega,by omega,by rw[Xd (by omega),List.getElem_take]⟩
theorem ZsZ (h:¬ Z9 d i s<0):0≤Z9 d i s∧(Z9 d i s).toNat<i∧(Z9 d i s).toNat<d.frames.length:=by
 unfold Z9 at h ⊢
 split
 · rename_i k hk
   have h1:=(List.findIdx?_eq_some_iff_getElem.1 hk).1
   rw[List.length_take]at h1
   exact⟨by omega,by rw[Int.toNat_natCast];omega,by rw[Int.toNat_natCast];omega⟩
 · rename_i hk
   rw[hk]at h
   exact absurd (by decide) h
theorem Zof:∀ k,k≤d.frames.length→ZZ (Q8 (d.frames.take k)) s=some z→0≤z∧z<k∧(ge d.frames z.toNat).label=s
 | 0,_,h=>by simp[Q8,QI]at h
 | k+1,hk,h=>by
  rw[ZcT (by omega),ZcU]at h
  split at h
  · rename_i e
    injection h with h
    subst h
    exact⟨by omega,by omega,by rw[e];rfl⟩
  · have:=Zof k (by omega) h
    exact⟨this.1,by omega,this.2.2⟩
theorem Zkw:∀ k,k≤d.frames.length→ZZ (Q8 (d.frames.take k)) s=none→∀ j,j<k→¬ (ge d.frames j).label=s
 | 0,_,_=>fun j hj=>by omega
 | k+1,hk,h=>fun j hj e=>by
  rw[ZcT (by omega),ZcU]at h
  split at h
  · cases h
  · rename_i e2
    rcases Nat.lt_or_ge j k with h3 | h3
    · exact Zkw k (by omega) h j h3 e
    · rw[show j=k by omega]at e
      exact e2 e.symm
theorem Zoe (hc:QK d=0) (hi:i≤d.frames.length):ZZ (Q8 (d.frames.take i)) s=if Z9 d i s<0 then none else some (Z9 d i s):=by
 cases h:ZZ (Q8 (d.frames.take i)) s with
 | none=>rw[ZdA (Zkw i hi h),if_pos (by decide)]
 | some z=>
  obtain⟨h1,h2,h3⟩:=Zof i hi h
  have h4:Z9 d i s=((z.toNat:Nat):Int):=Zff hi (by omega) (fun j hj e=>by
   have:=Zu1 hc (show j<d.frames.length by omega) (show z.toNat<d.frames.length by omega) (e.trans h3.symm)
   omega) h3
  rw[h4,if_neg (by omega),show((z.toNat:Nat):Int)=z by omega]
theorem fr_lst (h:frE d k=0):Zmu d k=0:=by
 unfold frE ZcX at h
 split at h
 · cases h
 split at h
 · cases h
 split at h
 · cases h
 split at h
 · rename_i h2
   rw[h]at h2
   simp at h2
 rename_i h3
 simpa using h3
theorem Zor (h:QE s=true):¬ s=⟨#[63]⟩:=fun e=>by rw[e]at h;exact absurd h (by decide)
theorem hyp_at (h:Zmu d k=0) (hj:j< (ge d.frames k).hyps.length):Qt (ge d.frames k) (ge (ge d.frames k).hyps j).label=some (ge (ge d.frames k).hyps j)∧QE (ge (ge d.frames k).hyps j).label=true:=by
 have hl:∀ p,p< (ge d.frames k).hyps.length→ge ((ge d.frames k).hyps++(ge d.frames k).dummies) p=ge (ge d.frames k).hyps p:=fun p hp=>ZoN hp
 have hj2:j< ((ge d.frames k).hyps++(ge d.frames k).dummies).length:=by rw[List.length_append];omega
 have h1:Zb5 d k j=0:=Qg h j hj2
 unfold Zb5 at h1
 rw[hl j hj]at h1
 refine⟨?_,?_⟩
 · unfold Qt
   rw[←hl j hj]
   refine ZgO hj2 (fun p hp=>?_) (by simp)
   rw[hl j hj,hl p (by omega)]
   have h2:(((ge d.frames k).hyps++(ge d.frames k).dummies).take j).any (Zjf (ge (ge d.frames k).hyps j))=false:=by
    unfold ZcW at h1
    split at h1
    · cases h1
    split at h1
    · cases h1
    split at h1
    · cases h1
    rename_i h3
    simpa using h3
   have h3:=List.any_eq_false.1 h2 (ge (ge d.frames k).hyps p) (by
    rw[←hl p (by omega),←Zjg hp]
    exact Zv (by rw[List.length_take];omega))
   simpa [Zjf]using h3
 · have h2:=ZaZ h1
   simp only[Zat,Bool.or_eq_false_iff,Bool.not_eq_false']at h2
   exact h2.1.1.1
end
def Zfl:List Itm→Int→List Int
 | [],_=>[]
 | x::r,b=>if x.tagged then b::Zfl r (b+1)else Zfl r (b+1)
theorem Zhl (x:Itm):∀(l:List Itm) (b:Int),Zfl (l++[x]) b=Zfl l b++(if x.tagged then [b+(l.length:Int)]else [])
 | [],b=>by simp only[List.nil_append,Zfl,List.length_nil,Int.natCast_zero,Int.add_zero]
 | y::l,b=>by
  simp only[List.cons_append,Zfl,Zhl x l (b+1),List.length_cons,show b+1+(l.length:Int)=b+((l.length+1:Nat):Int) by omega]
  split<;>rfl
theorem Zgk:∀(l:List Itm) (b:Int),∀ z∈Zfl l b,b≤z∧z<b+(l.length:Int)
 | [],b,z,h=>by simp[Zfl]at h
 | y::l,b,z,h=>by
  simp only[Zfl]at h
  simp only[List.length_cons]
  split at h
  · rcases List.mem_cons.1 h with rfl | h
    · omega
    · have:=Zgk l (b+1) z h;omega
  · have:=Zgk l (b+1) z h;omega
def ZtN (f:Fr) (M:List (BA×Int)) (tgs:List Int) (x:Itm) (r:Ri):Prop:=
 (r.unk=true∧x.kind=0)∨(r.unk=false∧r.back= -1∧¬ r.label=⟨#[63]⟩∧x.kind=(Yn f M r.label).kind∧x.text=(Yn f M r.label).text∧x.number=(Yn f M r.label).number)∨
 (r.unk=false∧x.kind=4∧0≤x.number∧x.number<tgs.length∧r.back=ge tgs x.number.toNat∧0≤r.back)
section
variable {f:Fr} {M:List (BA×Int)} {labels:List BA}
theorem Zrr {tags:List Int} {l:Lt} (hf:∀ j,j<f.hyps.length→Qt f (ge f.hyps j).label=some (ge f.hyps j)∧QE (ge f.hyps j).label=true) (hl:∀ s∈labels,QE s=true) (hn:0≤l.number) (ht:∀ z∈tags,0≤z):
 match Q2 f M labels tags.length l with
 | none=>Zbs f labels tags l=none
 | some x=>∃ r,Zbs f labels tags l=some r∧ZtN f M tags x r∧x.tagged=l.tagged:=by
 unfold Q2 Zbs
 by_cases h0:l.number=0
 · rw[if_pos h0,if_pos h0]
   exact⟨_,rfl,.inl ⟨rfl,rfl⟩,rfl⟩
 rw[if_neg h0,if_neg h0]
 by_cases h1:l.number≤(f.hyps.length:Int)
 · rw[if_pos h1,if_pos h1]
   have h2:=hf (l.number-1).toNat (by omega)
   refine⟨_,rfl,.inr (.inl ⟨rfl,rfl,Zor h2.2,?_⟩),rfl⟩
   rw[ZgD (Zor h2.2) (by rw[h2.1];rfl),h2.1]
   exact⟨rfl,rfl,rfl⟩
 rw[if_neg h1,if_neg h1]
 by_cases h2:l.number≤((f.hyps.length+labels.length:Nat):Int)
 · rw[if_pos h2,if_pos (by omega)]
   have e:(l.number-1-(f.hyps.length:Int)).toNat=(l.number-(f.hyps.length:Int)-1).toNat:=by omega
   rw[e]
   exact⟨_,rfl,.inr (.inl ⟨rfl,rfl,Zor (hl _ (Zv (by omega))),rfl,rfl,rfl⟩),rfl⟩
 have h2':¬ l.number≤(f.hyps.length:Int)+(labels.length:Int):=by omega
 rw[if_neg h2,if_neg h2']
 by_cases h3:l.number≤((f.hyps.length+labels.length+tags.length:Nat):Int)
 · have h3':l.number≤(f.hyps.length:Int)+(labels.length:Int)+(tags.length:Int):=by omega
   rw[if_pos h3,if_pos h3']
   have e:(l.number-1-(f.hyps.length:Int)-(labels.length:Int)).toNat=(l.number-(f.hyps.length:Int)-(labels.length:Int)-1).toNat:=by omega
   refine⟨_,rfl,.inr (.inr ⟨rfl,rfl,by show 0≤l.number-1-(f.hyps.length:Int)-(labels.length:Int);omega,by show l.number-1-(f.hyps.length:Int)-(labels.length:Int)<_;omega,by show _=ge tags (l.number-1-(f.hyps.length:Int)-(labels.length:Int)).toNat;rw[e],?_⟩),rfl⟩
   exact ht _ (Zv (by omega))
 · have h3':¬ l.number≤(f.hyps.length:Int)+(labels.length:Int)+(tags.length:Int):=by omega
   rw[if_neg h3,if_neg h3']
theorem Zoy (hf:∀ j,j<f.hyps.length→Qt f (ge f.hyps j).label=some (ge f.hyps j)∧QE (ge f.hyps j).label=true) (hl:∀ s∈labels,QE s=true):∀(ls:List Lt) (out:List Ri) (tags:List Int),(∀ l∈ls,0≤l.number)→(∀ z∈tags,0≤z)→
 (match Y8 f M labels ls tags.length with
 | none=>Zd5 f labels ls (out,tags)=none
 | some xs=>∃ rs tg,Zd5 f labels ls (out,tags)=some (out++rs,tg)∧rs.length=xs.length∧∀ k,k<xs.length→ZtN f M (tags++Zfl (xs.take k) (out.length:Int)) (ge xs k) (ge rs k))
 | [],out,tags,_,_=>⟨[],tags,by simp[Zd5],rfl,fun k hk=>by simp at hk⟩
 | l::r,out,tags,hn,ht=>by
  have h1:=Zrr (M:=M) (tags:=tags) hf hl (hn l (by simp)) ht
  simp only[Y8,Zd5]
  cases hi:Q2 f M labels tags.length l with
  | none=>rw[hi]at h1;simp only at h1 ⊢;rw[h1]
  | some x=>
   rw[hi]at h1
   obtain⟨y,hy,hr,hx⟩:=h1
   simp only[hy]
   have ht2:∀ z∈(if l.tagged then tags++[((out.length:Nat):Int)]else tags),0≤z:=fun z hz=>by
    split at hz
    · rcases List.mem_append.1 hz with hz | hz
      · exact ht z hz
      · rw[List.mem_singleton.1 hz];omega
    · exact ht z hz
   have h2:=Zoy hf hl r (out++[y]) (if l.tagged then tags++[((out.length:Nat):Int)]else tags) (fun z hz=>hn z (List.mem_cons_of_mem _ hz)) ht2
   have e1:(if l.tagged then tags++[((out.length:Nat):Int)]else tags).length=if l.tagged then tags.length+1 else tags.length:=by split<;>simp
   rw[e1]at h2
   cases hs:Y8 f M labels r (if l.tagged then tags.length+1 else tags.length)with
   | none=>rw[hs]at h2;exact h2
   | some xs=>
    rw[hs]at h2
    obtain⟨rs,tg,h3,h4,h5⟩:=h2
    refine⟨y::rs,tg,by rw[h3];simp,by simp[h4],fun k hk=>?_⟩
    cases k with
    | zero=>
     rw[Zww,Zww,List.take_zero]
     simpa [Zfl]using hr
    | succ k=>
     have h6:=h5 k (by simpa using hk)
     rw[Zvb,Zvb,List.take_succ_cons]
     simp only[Zfl,hx]
     cases hb:l.tagged with
     | true=>simpa [hb]using h6
     | false=>simpa [hb]using h6
end
theorem Zjh {α β:Type} [Inhabited α] [Inhabited β] {g:α→β} {l:List α} {k:Nat} (h:k<l.length):ge (l.map g) k=g (ge l k):=by
 rw[Xd (by simpa using h),Xd h,List.getElem_map]
section
variable {d:Db} {i:Nat} {t:List BA}
theorem ZhC {z:List BA×BA} (h:XD t=some z):z=(Xg t,Yb t)∧∀ s∈Xg t,QE s=true:=by
 simp only[XD]at h
 split at h
 · cases h
 split at h
 · cases h
 rename_i h2
 injection h with h
 exact⟨h.symm,fun s hs=>by have h3:=List.any_eq_false.1 (Bool.eq_false_iff.2 h2) s hs;simpa using h3⟩
theorem Zq5 (hs:List Hy) (l:List BA):(l.any fun s=>hs.any fun h=>decide (h.label=s))=hs.any fun h=>decide (h.label∈l):=by
 rw[Bool.eq_iff_iff]
 simp only[List.any_eq_true,decide_eq_true_eq]
 constructor
 · rintro⟨s,hs,h,hh,rfl⟩;exact⟨h,hh,hs⟩
 · rintro⟨h,hh,hl⟩;exact⟨_,hl,h,hh,rfl⟩
section
variable {f:Fr}
theorem ZaB (h:QW t=false):Z7 f t=((if 2000<t.length then []else ZlL t),(if 2000<t.length then 10 else 0)):=by
 rw[Z7,if_pos (by rw[h];rfl)]
 split<;>rfl
variable (h0:QW t=true)
include h0
theorem ri_20 (h:(QS t).2.2=20):Z7 f t=([],20):=by rw[Z7,if_neg (by rw[h0];decide),if_pos h]
theorem Zom (h:¬ (QS t).2.2=20):¬ Yp (isV ⟨#[41]⟩) t<0∧((QS t).2.2=0→(QS t).1=Xg t∧(QS t).2.1=(Zj (Yb t)).1)∧(¬ (QS t).2.2=21→(Zj (Yb t)).2=false):=by
 cases hp:XD t with
 | none=>rw[Zrg h0 hp]at h;exact absurd rfl h
 | some z=>
  obtain⟨rfl,_⟩:=ZhC hp
  refine⟨fun hi=>(by rw[Zgx hi]at hp;cases hp),?_⟩
  cases htw:Qw (Xg t)with
  | true=>rw[ZgG h0 hp htw]at h;exact absurd rfl h
  | false=>
   rw[ZlV h0 hp htw]
   cases hb:(Zj (Yb t)).2 with
   | true=>exact⟨fun e=>absurd e (show ¬ (21:Int)=0 by decide),fun e=>absurd rfl e⟩
   | false=>
    simp only[Bool.false_eq_true,if_false]
    refine⟨fun e=>?_,fun _=>trivial⟩
    split at e
    · cases e
    · rename_i h9;rw[if_neg h9];exact⟨rfl,rfl⟩
variable (h2:¬ (QS t).2.2=20)
include h2
theorem ri_own (h:(f.hyps.any fun h=>decide (h.label∈Xg t))=true):Z7 f t=([],20):=by rw[Z7,if_neg (by rw[h0];decide),if_neg h2,if_pos h]
variable (h3:(f.hyps.any fun h=>decide (h.label∈Xg t))=false)
include h3
theorem ri_21 (h:(QS t).2.2=21):Z7 f t=([],21):=by rw[Z7,if_neg (by rw[h0];decide),if_neg h2,if_neg (by rw[h3];decide),if_pos h]
variable (h4:¬ (QS t).2.2=21)
include h4
theorem ri_bad (h:Zd5 f (Xg t) (Zj (Yb t)).1 ([],[])=none):Z7 f t=([],21):=by rw[Z7,if_neg (by rw[h0];decide),if_neg h2,if_neg (by rw[h3];decide),if_neg h4,h]
theorem ri_10 {q:List Ri×List Int} (h:Zd5 f (Xg t) (Zj (Yb t)).1 ([],[])=some q) (h5:¬ (QS t).2.2=0):Z7 f t=([],(QS t).2.2):=by rw[Z7,if_neg (by rw[h0];decide),if_neg h2,if_neg (by rw[h3];decide),if_neg h4,h];exact if_neg h5
theorem ri_ok {q:List Ri×List Int} (h:Zd5 f (Xg t) (Zj (Yb t)).1 ([],[])=some q) (h5:(QS t).2.2=0):Z7 f t=(q.1,0):=by rw[Z7,if_neg (by rw[h0];decide),if_neg h2,if_neg (by rw[h3];decide),if_neg h4,h];exact if_pos h5
end
theorem Zka (hc:QK d=0) (hi:i<d.frames.length):match YW (ge d.frames i) (Q8 (d.frames.take i)) t with
 | .error c=>Z7 (ge d.frames i) t=([],c)∧c≠0
 | .ok xs=>∃ rs,Z7 (ge d.frames i) t=(rs,0)∧rs.length=xs.length∧∀ k,k<xs.length→ZtN (ge d.frames i) (Q8 (d.frames.take i)) (Zfl (xs.take k) 0) (ge xs k) (ge rs k):=by
 have hf:∀ j,j< (ge d.frames i).hyps.length→_:=fun j hj=>hyp_at (fr_lst (Zo9 hc i hi)) hj
 unfold YW Z7
 cases hcm:QW t with
 | false=>
  rw[if_pos (show(!false)=true from rfl),if_pos (show(!false)=true from rfl)]
  by_cases h1:2000<t.length
  · rw[if_pos h1,if_pos h1]
    exact⟨rfl,by decide⟩
  · rw[if_neg h1,if_neg h1]
    refine⟨_,rfl,by simp[ZlL],fun k hk=>?_⟩
    have hk:k<t.length:=by simpa using hk
    rw[Zjh hk,ZlL,Zjh hk]
    by_cases h2:ge t k=⟨#[63]⟩
    · exact .inl ⟨by simp[h2],by rw[Zi7 h2]⟩
    · exact .inr (.inl ⟨by simp[h2],rfl,h2,rfl,rfl,rfl⟩)
 | true=>
  rw[if_neg (show ¬ (!true)=true by decide),if_neg (show ¬ (!true)=true by decide)]
  cases hp:XD t with
  | none=>
   simp only
   rw[Zrg hcm hp]
   exact⟨rfl,by decide⟩
  | some z=>
   obtain⟨rfl,hl⟩:=ZhC hp
   simp only
   cases htw:Qw (Xg t)with
   | true=>
    rw[Bool.true_or,if_pos rfl,ZgG hcm hp htw]
    exact⟨rfl,by decide⟩
   | false=>
    rw[Bool.false_or,Zq5]
    have hne:(QS t).2.2≠20:=by
     rw[ZlV hcm hp htw]
     split
     · show(21:Int)≠20;decide
     split
     · show(10:Int)≠20;decide
     · show(0:Int)≠20;decide
    rw[if_neg hne]
    cases how:(ge d.frames i).hyps.any fun h=>decide (h.label∈Xg t)with
    | true=>
     rw[if_pos rfl,if_pos rfl]
     exact⟨rfl,by decide⟩
    | false=>
     rw[if_neg (show ¬ false=true by decide),if_neg (show ¬ false=true by decide)]
     cases hb:(Zj (Yb t)).2 with
     | true=>
      rw[if_pos (by rw[le_21 hcm hp htw hb])]
      cases Y8 (ge d.frames i) (Q8 (d.frames.take i)) (Xg t) (Zj (Yb t)).1 0 with
      | none=>exact⟨rfl,by decide⟩
      | some xs=>show(([],21):List Ri×Int)=([],21)∧(21:Int)≠0;exact⟨rfl,by decide⟩
     | false=>
      have h21:(QS t).2.2≠21:=by
       rw[ZlV hcm hp htw,hb]
       simp only[Bool.false_eq_true,if_false]
       split
       · show(10:Int)≠21;decide
       · show(0:Int)≠21;decide
      rw[if_neg h21]
      have h1:=Zoy (M:=Q8 (d.frames.take i)) hf hl (Zj (Yb t)).1 [] [] (QJ _ _ 0 false (Nat.le_refl _) (Int.le_refl _)) (fun z hz=>by cases hz)
      rw[show([]:List Int).length=0 from rfl]at h1
      cases hx:Y8 (ge d.frames i) (Q8 (d.frames.take i)) (Xg t) (Zj (Yb t)).1 0 with
      | none=>
       rw[hx]at h1
       simp only at h1 ⊢
       rw[h1]
       exact⟨rfl,by decide⟩
      | some xs=>
       rw[hx]at h1
       obtain⟨rs,tg,h2,h3,h4⟩:=h1
       rw[List.nil_append]at h2
       have h5:=Zki _ _ _ h2
       simp only[List.length_nil,Nat.zero_add]at h5
       simp only[h2,Bool.false_eq_true,if_false]
       by_cases h6:2000<xs.length
       · rw[if_pos h6,le_10 hcm hp htw hb (by show 2000< (Zj (Yb t)).1.length;omega)]
         exact⟨rfl,by decide⟩
       · rw[if_neg h6,le_ok hcm hp htw hb (by show ¬ 2000< (Zj (Yb t)).1.length;omega)]
         exact⟨rs,rfl,h3,fun k hk=>by simpa using h4 k hk⟩
end
def Xb (d:Db) (i:Nat) (r:Ri) (gv sk:List (List BA)):(List BA×List (List BA))×Int:=
 if r.unk then(([],[]),27)
 else if 0≤r.back then((ge gv r.back.toNat,sk),0)
 else match Qt (ge d.frames i) r.label with
  | some h=>((h.text,sk),0)
  | none=>if Z9 d i r.label<0 then(([],[]),22)
   else if sk.length< (ge d.frames (Z9 d i r.label).toNat).hyps.length then(([],[]),23)
   else(((Zcd d.vars (ge d.frames i).wide (ge d.frames (Z9 d i r.label).toNat) (sk.drop (sk.length-(ge d.frames (Z9 d i r.label).toNat).hyps.length))).1,sk.take (sk.length-(ge d.frames (Z9 d i r.label).toNat).hyps.length)),
    (Zcd d.vars (ge d.frames i).wide (ge d.frames (Z9 d i r.label).toNat) (sk.drop (sk.length-(ge d.frames (Z9 d i r.label).toNat).hyps.length))).2)
section
variable {d:Db} {i:Nat} {r:Ri} {x:Itm} {gv sk tg:List (List BA)} {tgs:List Int}
theorem Zt9:(Xb d i r gv sk).1.2.length≤sk.length:=by
 unfold Xb
 split
 · exact Nat.zero_le _
 split
 · exact Nat.le_refl _
 split
 · exact Nat.le_refl _
 split
 · exact Nat.zero_le _
 split
 · exact Nat.zero_le _
 · show(sk.take _).length≤_
   rw[List.length_take]
   exact Nat.min_le_right _ _
theorem ZmZ (hc:QK d=0) (hi:i<d.frames.length) (h:ZtN (ge d.frames i) (Q8 (d.frames.take i)) tgs x r) (htg:tg=tgs.map fun z=>ge gv z.toNat):
 Xk d.frames d.vars (ge d.frames i) sk tg x=if(Xb d i r gv sk).2=0 then .ok ((Xb d i r gv sk).1.2++[(Xb d i r gv sk).1.1])else .error (Xb d i r gv sk).2:=by
 rcases h with⟨h1,h2⟩ | ⟨h1,h2,h3,h4,h5,h6⟩ | ⟨h1,h2,h3,h4,h5,h6⟩
 · unfold Xk Xb
   rw[h2,if_pos h1]
   rfl
 · have hs:Xb d i r gv sk=match Qt (ge d.frames i) r.label with
    | some h=>((h.text,sk),0)
    | none=>if Z9 d i r.label<0 then(([],[]),22)
     else if sk.length< (ge d.frames (Z9 d i r.label).toNat).hyps.length then(([],[]),23)
     else(((Zcd d.vars (ge d.frames i).wide (ge d.frames (Z9 d i r.label).toNat) (sk.drop (sk.length-(ge d.frames (Z9 d i r.label).toNat).hyps.length))).1,sk.take (sk.length-(ge d.frames (Z9 d i r.label).toNat).hyps.length)),
      (Zcd d.vars (ge d.frames i).wide (ge d.frames (Z9 d i r.label).toNat) (sk.drop (sk.length-(ge d.frames (Z9 d i r.label).toNat).hyps.length))).2):=by
    rw[Xb,if_neg (by simp[h1]),if_neg (by omega)]
   cases hh:Qt (ge d.frames i) r.label with
   | some y=>
    rw[ZgD h3 (by rw[hh];rfl),hh]at h4 h5
    rw[hs,hh]
    unfold Xk
    rw[h4,if_pos rfl,h5]
    rfl
   | none=>
    rw[hh]at hs
    simp only at hs
    have hm:=Zoe (s:=r.label) hc (Nat.le_of_lt hi)
    by_cases ha:Z9 d i r.label<0
    · rw[if_pos ha]at hm hs
      rw[Zi5 h3 (by rw[hh];simp) (by rw[hm];simp)]at h4
      rw[hs]
      unfold Xk
      rw[h4]
      rfl
    · rw[if_neg ha]at hm hs
      rw[Zi6 h3 (by rw[hh];simp) (by rw[hm];rfl)]at h4 h6
      rw[hm]at h6
      have h6:x.number=Z9 d i r.label:=h6
      unfold Xk
      rw[h4,if_neg (show ¬ (2:Int)=1 by decide),if_pos (show(2:Int)=2 from rfl),h6,ZmR]
      by_cases hl:sk.length< (ge d.frames (Z9 d i r.label).toNat).hyps.length
      · rw[if_pos hl]at hs ⊢
        rw[hs]
        rfl
      · rw[if_neg hl]at hs ⊢
        rw[hs]
 · have hs:Xb d i r gv sk=((ge gv r.back.toNat,sk),0):=by rw[Xb,if_neg (by simp[h1]),if_pos h6]
   rw[hs]
   unfold Xk
   rw[h2,if_neg (show ¬ (4:Int)=1 by decide),if_neg (show ¬ (4:Int)=2 by decide),if_pos (show(4:Int)=4 from rfl),htg,Zjh (by omega),←h5]
   rfl
end
section
variable {fs:List Fr} {vars:List BA} {f:Fr} {xs:List Itm}
theorem Zam:∀(k:Nat) (m:Ms),ZaU fs vars f xs (k+1) m=Ym fs vars f xs (ZaU fs vars f xs k m)
 | 0,_=>rfl
 | k+1,m=>Zam k (Ym fs vars f xs m)
theorem Zj6 (a:Nat) (m:Ms):∀ b,ZaU fs vars f xs (a+b) m=ZaU fs vars f xs b (ZaU fs vars f xs a m)
 | 0=>rfl
 | b+1=>by rw[←Nat.add_assoc,Zam,Zj6 a m b,←Zam]
structure Rs where
 sk:List (List BA)
 n:Nat
 kn:Bool
 v:Int×Int
instance instInhRs:Inhabited Rs:=⟨⟨[],0,false,(0,0)⟩⟩
def rsC (x:Rs):List CD:=[Yg x.sk,.lit (.int .i64 ((x.n:Nat):Int)),.lit (.bool x.kn),.lit (.int .i64 x.v.1),.lit (.int .i64 x.v.2)]
def ZlD (m:Ms):Rs:=⟨m.sk,m.n,m.kn,m.v⟩
theorem Zvl (f:Fr) (len:Nat) (m:Ms):(Zb9 f len m).tg=m.tg:=by unfold Zb9;split<;>rfl
theorem Zvm (f:Fr) (len:Nat) (m:Ms):ZlD (Zb9 f len m)=if m.n<len then⟨m.sk,m.n,m.kn,m.v⟩else⟨m.sk,m.n,true,Zc1 f m.sk m.n⟩:=by unfold Zb9;split<;>rfl
theorem Zgq:∀(j:Nat) (m:Ms),m.kn=true→ZlD (ZaU fs vars f xs j m)=ZlD m
 | 0,_,_=>rfl
 | j+1,m,h=>by
  have e:Ym fs vars f xs m= { m with did:=false }:=by unfold Ym;rw[if_pos h]
  show ZlD (ZaU fs vars f xs j (Ym fs vars f xs m))=_
  rw[e]
  exact Zgq j { m with did:=false } h
theorem ZcL {a b:Nat} {m:Ms} (hab:a≤b) (h:(ZaU fs vars f xs a m).kn=true):ZlD (ZaU fs vars f xs b m)=ZlD (ZaU fs vars f xs a m):=by
 rw[show b=a+(b-a) by omega,Zj6,Zgq _ _ h]
end
structure Zp4 (d:Db) (i:Nat) (t:List BA) (n:Nat) (sk gv:List (List BA)):Prop where
 le:n≤(Y3 d i t).length
 st:ZlD (ZaU d.frames d.vars (ge d.frames i) (Y3 d i t) n (X9 d i t))=⟨sk,n,decide (n=(Y3 d i t).length),if n=(Y3 d i t).length then Zc1 (ge d.frames i) sk n else(0,0)⟩
 tg:(ZaU d.frames d.vars (ge d.frames i) (Y3 d i t) n (X9 d i t)).tg=(Zfl ((Y3 d i t).take n) 0).map fun z=>ge gv z.toNat
 gl:gv.length=n
 inv:Zmy (Y3 d i t) (ZaU d.frames d.vars (ge d.frames i) (Y3 d i t) n (X9 d i t))
section
variable {d:Db} {i n:Nat} {t:List BA} {sk gv:List (List BA)} {r:Ri}
theorem ZlC (hc:QK d=0) (hi:i<d.frames.length) {xs:List Itm} (h:YW (ge d.frames i) (Q8 (d.frames.take i)) t= .ok xs):Zp4 d i t 0 [] []∧Y3 d i t=xs:=by
 have hg:=Zab hc
 have h0:=Zhm (t:=t) (Za1 (ZaX i (Nat.le_of_lt hi)) (Nat.le_of_lt hi)) (hg _ (Zv hi)).2.2
 have e1:Y3 d i t=xs:=by rw[Y3,h];rfl
 have e2:X9 d i t=Zb9 (ge d.frames i) xs.length ⟨[],[],0,false,(0,0),true⟩:=by rw[X9,h];rfl
 refine⟨⟨Nat.zero_le _,?_,?_,rfl,h0.2⟩,e1⟩
 · show ZlD (X9 d i t)=_
   rw[e1,e2]
   unfold Zb9 ZlD
   by_cases hl:0<xs.length
   · rw[if_pos hl,if_neg (by omega),decide_eq_false (by omega)]
   · rw[if_neg hl,if_pos (by omega),decide_eq_true (by omega)]
 · show(X9 d i t).tg=_
   rw[e2,List.take_zero]
   unfold Zb9
   split<;>rfl
theorem Zqp {c:Int} (h:YW (ge d.frames i) (Q8 (d.frames.take i)) t= .error c) (most:Nat):ZlD (ZaU d.frames d.vars (ge d.frames i) (Y3 d i t) most (X9 d i t))=⟨[],0,true,(c,0)⟩:=by
 have e:X9 d i t=⟨[],[],0,true,(c,0),true⟩:=by rw[X9,h];rfl
 rw[Zgq _ _ (by rw[e]),e]
 rfl
variable (hI:Zp4 d i t n sk gv) (hn:n< (Y3 d i t).length)
include hI hn
theorem Znl:∃ tg did,ZaU d.frames d.vars (ge d.frames i) (Y3 d i t) n (X9 d i t)=⟨sk,tg,n,false,(0,0),did⟩∧tg=(Zfl ((Y3 d i t).take n) 0).map fun z=>ge gv z.toNat:=by
 have h1:=hI.st
 have h2:=hI.tg
 rw[if_neg (by omega),decide_eq_false (by omega)]at h1
 generalize ZaU d.frames d.vars (ge d.frames i) (Y3 d i t) n (X9 d i t)=m at h1 h2
 obtain⟨a,b,c,e,v,f⟩:=m
 simp only[ZlD,Rs.mk.injEq]at h1
 obtain⟨rfl,rfl,rfl,rfl⟩:=h1
 exact⟨b,f,rfl,h2⟩
variable (hc:QK d=0) (hi:i<d.frames.length) (hr:ZtN (ge d.frames i) (Q8 (d.frames.take i)) (Zfl ((Y3 d i t).take n) 0) (ge (Y3 d i t) n) r)
include hc hi hr
theorem Zni (he:¬ (Xb d i r gv sk).2=0):ZlD (ZaU d.frames d.vars (ge d.frames i) (Y3 d i t) (n+1) (X9 d i t))=⟨sk,n,true,((Xb d i r gv sk).2,(n:Int))⟩:=by
 obtain⟨tg,did,h1,h2⟩:=Znl hI hn
 have h3:=ZmZ (sk:=sk) hc hi hr h2
 rw[if_neg he]at h3
 rw[Zam,h1,ZcI rfl h3]
 rfl
theorem Znj (he:(Xb d i r gv sk).2=0):Zp4 d i t (n+1) ((Xb d i r gv sk).1.2++[(Xb d i r gv sk).1.1]) (gv++[(Xb d i r gv sk).1.1]):=by
 obtain⟨tg,did,h1,h2⟩:=Znl hI hn
 have h3:=ZmZ (sk:=sk) hc hi hr h2
 rw[if_pos he]at h3
 have hg:=Zab hc
 have h0:=Zhm (t:=t) (Za1 (ZaX i (Nat.le_of_lt hi)) (Nat.le_of_lt hi)) (hg _ (Zv hi)).2.2
 have h4:=Zgm (vars:=d.vars) (f:=ge d.frames i) (fun g h=>(hg g h).2.1) h0.1 hI.inv
 rw[←Zam]at h4
 have hgl:=hI.gl
 have e1:ge (((Xb d i r gv sk).1.2++[(Xb d i r gv sk).1.1])) ((((Xb d i r gv sk).1.2++[(Xb d i r gv sk).1.1]).length:Int)-1).toNat=(Xb d i r gv sk).1.1:=by
  have:((((Xb d i r gv sk).1.2++[(Xb d i r gv sk).1.1]).length:Int)-1).toNat=(Xb d i r gv sk).1.2.length:=by simp
  rw[this]
  simp[ge,List.getD_eq_getElem?_getD]
 have e2:ZaU d.frames d.vars (ge d.frames i) (Y3 d i t) (n+1) (X9 d i t)=Zb9 (ge d.frames i) (Y3 d i t).length ⟨(Xb d i r gv sk).1.2++[(Xb d i r gv sk).1.1],if(ge (Y3 d i t) n).tagged=true then tg++[(Xb d i r gv sk).1.1]else tg,n+1,false,(0,0),true⟩:=by
  rw[Zam,h1,ZcH rfl h3,e1]
 refine⟨hn,?_,?_,by simp[hgl],h4⟩
 · rw[e2,Zvm]
   show(if n+1< (Y3 d i t).length then(⟨(Xb d i r gv sk).1.2++[(Xb d i r gv sk).1.1],n+1,false,(0,0)⟩:Rs)else⟨(Xb d i r gv sk).1.2++[(Xb d i r gv sk).1.1],n+1,true,Zc1 (ge d.frames i) ((Xb d i r gv sk).1.2++[(Xb d i r gv sk).1.1]) (n+1)⟩)=_
   by_cases hl:n+1< (Y3 d i t).length
   · rw[if_pos hl,if_neg (by omega),decide_eq_false (by omega)]
   · rw[if_neg hl,if_pos (by omega),decide_eq_true (by omega)]
 · have e3:(ZaU d.frames d.vars (ge d.frames i) (Y3 d i t) (n+1) (X9 d i t)).tg=if(ge (Y3 d i t) n).tagged=true then tg++[(Xb d i r gv sk).1.1]else tg:=by
    rw[e2,Zvl]
   have e4:(Zfl ((Y3 d i t).take n) 0).map (fun z=>ge (gv++[(Xb d i r gv sk).1.1]) z.toNat)=tg:=by
    rw[h2]
    refine List.map_congr_left fun z hz=>?_
    have h5:=Zgk _ _ z hz
    rw[List.length_take,Nat.min_eq_left (Nat.le_of_lt hn)]at h5
    exact ZoN (by omega)
   have e5:ge (gv++[(Xb d i r gv sk).1.1]) n=(Xb d i r gv sk).1.1:=by
    rw[←hgl]
    simp[ge,List.getD_eq_getElem?_getD]
   rw[e3,Z0 hn,Zhl,List.map_append,e4]
   split
   · rw[List.length_take,Nat.min_eq_left (Nat.le_of_lt hn)]
     simp only[List.map_cons,List.map_nil,Int.zero_add,Int.toNat_natCast,e5]
   · simp
end
def Zgr (d:Db) (i:Nat) (t:List BA) (most:Nat):Rs:=ZlD (ZaU d.frames d.vars (ge d.frames i) (Y3 d i t) most (X9 d i t))
section
variable {d:Db} {i n most:Nat} {t:List BA} {sk gv:List (List BA)} {r:Ri}
theorem Znh (hI:Zp4 d i t n sk gv) (hn:n< (Y3 d i t).length) (h:n≤most) (h2:most≤n):Zgr d i t most=⟨sk,n,false,(0,0)⟩:=by
 have:most=n:=by omega
 subst this
 have h1:=hI.st
 rw[if_neg (by omega),decide_eq_false (by omega)]at h1
 exact h1
theorem Zqo (hI:Zp4 d i t n sk gv) (hn:n=(Y3 d i t).length) (h:n≤most):Zgr d i t most=⟨sk,n,true,Zc1 (ge d.frames i) sk n⟩:=by
 have h1:=hI.st
 rw[if_pos hn,decide_eq_true hn]at h1
 have h2:(ZaU d.frames d.vars (ge d.frames i) (Y3 d i t) n (X9 d i t)).kn=true:=congrArg Rs.kn h1
 rw[Zgr,ZcL h h2,h1]
theorem Zng (hI:Zp4 d i t n sk gv) (hn:n< (Y3 d i t).length) (hc:QK d=0) (hi:i<d.frames.length) (hr:ZtN (ge d.frames i) (Q8 (d.frames.take i)) (Zfl ((Y3 d i t).take n) 0) (ge (Y3 d i t) n) r) (he:¬ (Xb d i r gv sk).2=0) (h:n<most):Zgr d i t most=⟨sk,n,true,((Xb d i r gv sk).2,(n:Int))⟩:=by
 have h1:=Zni hI hn hc hi hr he
 have h2:(ZaU d.frames d.vars (ge d.frames i) (Y3 d i t) (n+1) (X9 d i t)).kn=true:=congrArg Rs.kn h1
 rw[Zgr,ZcL h h2,h1]
theorem Zqn (hc:QK d=0) (hi:i<d.frames.length) (h:(Y3 d i t).length<most):(Zgr d i t most).v=ZiH d.frames d.vars (ge d.frames i) (Q8 (d.frames.take i)) t:=by
 have hg:=Zab hc
 have h0:=Zhm (t:=t) (Za1 (ZaX i (Nat.le_of_lt hi)) (Nat.le_of_lt hi)) (hg _ (Zv hi)).2.2
 have key:∀ j,Zmy (Y3 d i t) (ZaU d.frames d.vars (ge d.frames i) (Y3 d i t) j (X9 d i t))∧((ZaU d.frames d.vars (ge d.frames i) (Y3 d i t) j (X9 d i t)).kn=false→(ZaU d.frames d.vars (ge d.frames i) (Y3 d i t) j (X9 d i t)).n=j):=by
  intro j
  induction j with
  | zero=>exact⟨h0.2,fun _=>Zm0⟩
  | succ j ih=>
   have h1:=Zgm (vars:=d.vars) (f:=ge d.frames i) (fun g h=>(hg g h).2.1) h0.1 ih.1
   have h2:=Zdn (fs:=d.frames) (vars:=d.vars) (f:=ge d.frames i) ih.1
   rw[Zam]
   refine⟨h1,fun e=>?_⟩
   rcases h2 with h2 | h2
   · rw[h2.2.1]at e;cases e
   · rw[h2.2.1,ih.2 h2.2.2.2]
 have h3:(ZaU d.frames d.vars (ge d.frames i) (Y3 d i t) (Y3 d i t).length (X9 d i t)).kn=true:=by
  cases hk:(ZaU d.frames d.vars (ge d.frames i) (Y3 d i t) (Y3 d i t).length (X9 d i t)).kn with
  | true=>rfl
  | false=>
   have h4:=(key (Y3 d i t).length).1.kn hk
   have h5:=(key (Y3 d i t).length).2 hk
   omega
 have e1:=ZcL (b:=(Y3 d i t).length+1) (by omega) h3
 have e2:=ZcL (b:=most) (by omega) h3
 show(Zgr d i t most).v=(ZaU d.frames d.vars (ge d.frames i) (Y3 d i t) ((Y3 d i t).length+1) (X9 d i t)).v
 rw[Zgr,e2,←e1]
 rfl
end
section
variable {d:Db} {i n most:Nat} {t:List BA} {sk gv:List (List BA)} {r:Ri}
theorem run_ok (hc:QK d=0) (hi:i<d.frames.length) (h:(Z7 (ge d.frames i) t).2=0):Zp4 d i t 0 [] []∧(Z7 (ge d.frames i) t).1.length=(Y3 d i t).length∧
 ∀ k,k< (Y3 d i t).length→ZtN (ge d.frames i) (Q8 (d.frames.take i)) (Zfl ((Y3 d i t).take k) 0) (ge (Y3 d i t) k) (ge (Z7 (ge d.frames i) t).1 k):=by
 have h1:=Zka (t:=t) hc hi
 cases hr:YW (ge d.frames i) (Q8 (d.frames.take i)) t with
 | error c=>
  rw[hr]at h1
  rw[h1.1]at h
  exact absurd h h1.2
 | ok xs=>
  rw[hr]at h1
  obtain⟨rs,h2,h3,h4⟩:=h1
  obtain⟨h5,h6⟩:=ZlC hc hi hr
  rw[h6,h2]
  exact⟨h5,h3,h4⟩
theorem Zug (hc:QK d=0) (hi:i<d.frames.length) (h:¬ (Z7 (ge d.frames i) t).2=0):Zgr d i t most=⟨[],0,true,((Z7 (ge d.frames i) t).2,0)⟩:=by
 have h1:=Zka (t:=t) hc hi
 cases hr:YW (ge d.frames i) (Q8 (d.frames.take i)) t with
 | error c=>
  rw[hr]at h1
  rw[Zgr,Zqp hr,h1.1]
 | ok xs=>
  rw[hr]at h1
  obtain⟨rs,h2,_⟩:=h1
  rw[h2]at h
  exact absurd rfl h
theorem Zuh (hI:Zp4 d i t n sk gv):(∀ t∈sk,1≤t.length∧t.length≤2000)∧sk.length≤n:=by
 have h1:(ZaU d.frames d.vars (ge d.frames i) (Y3 d i t) n (X9 d i t)).sk=sk:=congrArg Rs.sk hI.st
 have h2:(ZaU d.frames d.vars (ge d.frames i) (Y3 d i t) n (X9 d i t)).n=n:=congrArg Rs.n hI.st
 have h3:=hI.inv.sk
 have h4:=hI.inv.skn
 rw[h1]at h3 h4
 rw[h2]at h4
 exact⟨h3,h4⟩
theorem Znk (hI:Zp4 d i t n sk gv) (hn:n< (Y3 d i t).length) (hr:ZtN (ge d.frames i) (Q8 (d.frames.take i)) (Zfl ((Y3 d i t).take n) 0) (ge (Y3 d i t) n) r) (h1:r.unk=false) (h2:0≤r.back):r.back<gv.length:=by
 rcases hr with h | h | h
 · rw[h.1]at h1;cases h1
 · have:=h.2.1;omega
 · have h3:=Zgk _ _ _ (Zv (xs:=Zfl ((Y3 d i t).take n) 0) (k:=(ge (Y3 d i t) n).number.toNat) (by have:=h.2.2.2.1;have:=h.2.2.1;omega))
   rw[←h.2.2.2.2.1,List.length_take,Nat.min_eq_left (Nat.le_of_lt hn)]at h3
   rw[hI.gl]
   omega
theorem Zoz (hc:QK d=0) (hi:i<d.frames.length):(Y3 d i t).length≤2000:=
 (Zhm (t:=t) (Za1 (ZaX i (Nat.le_of_lt hi)) (Nat.le_of_lt hi)) (Zab hc _ (Zv hi)).2.2).1.1
end
end Go.Proofs.YtneapgbkkkjagaaGreatDoor
set_option maxHeartbeats 8000000
set_option maxRecDepth 100000
namespace Go.Proofs.YtneapgbkkkjagaaGreatDoor
open Go.Proofs.Tryz (prog)
open Go.RowKit
theorem Ze9 {J:World→Prop} (hJ:Stab J) (l:List Bd) (s:BA)  :Fn prog J 149 [.rd (ZdW l),.str s] (.rd (Zg (Yw (ZW l) s))):=by
 refine Zo (N:=26) Tryz.func149 rfl rfl (lb rfl) fun S w0 hS hJ0=>?_
 refine tw Z1 ?_
 refine ln 0 fun hl1=>?_
 refine qso tb hJ [0,1] [_] [_,_] ?_
 refine Zf (qso tb hJ [0,1,1000] [_] U3 ?_)
 refine Zc (lpo (ι:=Nat) (fun k=>(k≤l.length)∧(∀ j,j<k→¬ (ge l j).var=s)) (fun _=>[]) (fun k=>[(5,.int (k:Nat))]) (fun k=>l.length-k) [0,1,2] [_,_] 0 ⟨Nat.zero_le _,fun j hj=>by omega⟩ ?_)
 rintro k ⟨f1_1,f1_2⟩
 refine Zf (ZG tb hJ [0,1,2,1003] [_,_,.int (l.length:Nat),_] [2] U4 rfl ⟨Z2 ZdC,trivial⟩ ?_)
 refine cj 3 (fun hb1=>?_) fun hb1=>?_
 try simp at hb1
 refine Zb (nx (Zf (Zc (ZG tb hJ [0,1,2,1006] [_,_,.ptr (bdC (ge l k)),_,_,_,_] [2] U4 rfl ⟨iIx Xy,trivial⟩ ?_))))
 refine cj 3 (fun hb2=>?_) fun hb2=>?_
 try simp at hb2
 refine ZG tb hJ [1004,1005] [_,_,.ptr (bdC (ge l k)),_,_,_] [2] [_,_] rfl ⟨iIx Xy,trivial⟩ ?_
 refine ln 0 fun hl2=>?_
 exact Ze (Xe (m:=1) rfl rfl (congrArg (fun z=>AV.rd (Zg z)) (show((ge l k).text)=(Yw (ZW l) s)from by first | exact(ZoF hb1 f1_2 hb2).symm | exact(ZkE fun j hj=>f1_2 j (by omega)).symm)))
 try simp at hb2
 refine Zb (nx (Yu tb hJ [0,1,1002] [_,.int (k+1:Nat),_] [1] U3 rfl ⟨Ya,trivial⟩ ?_))
 exact YH (k+1) [0,1,2] ⟨by omega,ZK f1_2 hb2⟩
 try simp at hb1
 refine Zt (nx (ZG tb hJ [1001,1002] [_,.rd (Zg ([s])),_] [1] [_,_] rfl ⟨fun _ _ hk hx hl _=>YD Zd ZaT rfl (hl.D 0 24 rfl rfl) (Zp hS _ hk hx _ (Nat.le_refl _)) (jo hJ hx),trivial⟩ ?_))
 refine ln 0 fun hl3=>?_
 exact Ze (Xe (m:=1) rfl rfl (congrArg (fun z=>AV.rd (Zg z)) (show([s])=(Yw (ZW l) s)from by first | exact(ZoF hb1 f1_2 hb2).symm | exact(ZkE fun j hj=>f1_2 j (by omega)).symm)))
theorem Zwj {J:World→Prop} (hJ:Stab J) (t:List BA) (l:List Bd) (hb:(XN (ZW l) t).length≤2000):Fn prog J 150 [.rd (Zg t),.rd (ZdW l)] (.rd (Zg (XN (ZW l) t))):=by
 refine Zo (N:=23) Tryz.func150 rfl rfl (lb rfl) fun S w0 hS hJ0=>?_
 refine tw Z1 ?_
 refine ln 0 fun hl1=>?_
 refine ln 1 fun hl2=>?_
 refine qso tb hJ [0,1] [_] [_,_] ?_
 refine tsq ?_
 refine Xp Zd hJ rfl rfl rfl (lb rfl) fun v1=>?_
 refine snK 1 tb rfl ?_
 refine seK [0,2,3] U3 rfl ?_
 refine nx (Zf (qso tb hJ [0,1,2,1000] [_] U4 ?_))
 refine Zc (lpo (ι:=Nat×Value×(List BA)) (fun(k,_,out)=>(k≤t.length)∧(out=XN (ZW l) (t.take k))) (fun(_,v,out)=>[OB.row v 9 1 (out.map Zad)]) (fun(k,v,_)=>[(6,.int (k:Nat)),(5,.lit v)]) (fun(k,_,_)=>t.length-k) [1,2,3,0] [_,_] (0,v1,([]:List BA)) ⟨Nat.zero_le _,rfl⟩ ?_)
 rintro⟨k,v,out⟩ ⟨f1_1,f1_2⟩
 refine Zf (ZG tb hJ [0,1,2,3,1003] [_,_,.int (t.length:Nat),_] [2] U5 rfl ⟨Z2 Zm,trivial⟩ ?_)
 refine cj 4 (fun hb1=>?_) fun hb1=>?_
 try simp at hb1
 refine Zb (nx (Zf (Zc (ZE (snK 4 tb rfl ?_)))))
 refine sy (.ptr [lS (ge t k)]) (fun h=>ZO (i:=(k:Int)) Zd rfl (h.get 1 rfl) (h.get 0 rfl) (Int.natCast_nonneg _) (ZU (xs:=t) (k:=k) sfz) rfl h.x) ?_
 refine snK 1 tb rfl ?_
 refine sy (.rd (Zg (Yw (ZW l) (ge t k)))) (fun h=>Zbw (Ze9 hJ l (ge t k)) Zc3 rfl (Zp hS _ h.keep h.x) (h.x.1) (Za (h.get 4 rfl) (Za (h.get 0 rfl) Zh)) (jo hJ h.x)) ?_
 refine ZR (f:=Zad) (m:=6) (s:=14) out (Yw (ZW l) (ge t k)) (fun _=>rfl) Xh hJ hJ0 rfl rfl rfl (lb rfl) rfl rfl (fun a w h=>(h.get 0 rfl)) (by have h9:=XM (ZW l) t (k+1);rw[YZ (by omega),List.length_append,←f1_2]at h9;omega) (by have h9:=XM (ZW l) t (k+1);rw[YZ (by omega),List.length_append,←f1_2]at h9;omega) fun v2=>?_
 refine snK 1 tb rfl ?_
 refine seK [0,2,9,10,11] U5 rfl ?_
 refine nx (ln 1 fun hl3=>?_)
 refine Yu tb hJ [0,2,3,1002] [_,.int (k+1:Nat),_] [1] U4 rfl ⟨Ya,trivial⟩ ?_
 exact YH (k+1,v2,out++(Yw (ZW l) (ge t k))) [1,2,3,0] ⟨by omega,by rw[YZ (by omega),←f1_2]⟩
 try simp at hb1
 refine Zt (nx (qso tb hJ [1001] [_,_] [_] ?_))
 refine tw (fun h=>ZN hS h (m:=0) (s:=4) rfl) ?_
 exact Ze (Xe (m:=0) rfl rfl (congrArg (fun z=>AV.rd (Zg z)) (show out=(XN (ZW l) t)from by rw[f1_2,ZF (by omega)])))
theorem Zmo {J:World→Prop} (hJ:Stab J) (t:List BA) (l:List Bd) (n:Nat) (hn:n≤2000) (hl:∀ b∈l,b.text.length≤2000):Fn prog J 120 [.rd (Zg t),.rd (ZdW l),.int (n:Nat)] (.tup [.rd (Zg (if ZaS (ZW l) t n then XN (ZW l) t else [])),.int (if ZaS (ZW l) t n then 0 else 15)]):=by
 refine Zo (N:=33) Tryz.func120 rfl rfl (lb rfl) fun S w0 hS hJ0=>?_
 refine tw Z1 ?_
 refine ln 0 fun hl1=>?_
 refine ln 1 fun hl2=>?_
 refine qso tb hJ [0,1,2] [_,_] U3 ?_
 refine Zf (qso tb hJ [0,1,2,1001] [_,_] U4 ?_)
 refine cj 3 (fun hb1=>?_) fun hb1=>?_
 try simp at hb1
 exact False.elim (by omega)
 try simp at hb1
 refine Zb (nx (qso tb hJ [0,1,2,1000] [_] U4 ?_))
 refine Zf (qso tb hJ [0,1,2,3,1000] [_] U5 ?_)
 refine Zc (lpo (ι:=Nat×Nat) (fun(k,z)=>(k≤t.length)∧(z=(XN (ZW l) (t.take k)).length)∧(z≤n)) (fun(_,_)=>[]) (fun(k,z)=>[(9,.int (k:Nat)),(8,.int (z:Nat))]) (fun(k,_)=>t.length-k) [0,1,2,4,3] U3 (0,0) ⟨Nat.zero_le _,by simp[XN],Nat.zero_le _⟩ ?_)
 rintro⟨k,z⟩ ⟨f1_1,f1_2,f1_3⟩
 refine Zf (ZG tb hJ (r5 [1003]) [_,_,.int (t.length:Nat),_] [2] U6 rfl ⟨Z2 Zm,trivial⟩ ?_)
 refine cj 5 (fun hb2=>?_) fun hb2=>?_
 try simp at hb2
 refine Zb (nx (Zf (Zc (ZG tb hJ [0,1,2,3,1006,1009] [_,_,_,_,.ptr [lS (ge t k)],_,.rd (Zg (Yw (ZW l) (ge t k))),.int ((Yw (ZW l) (ge t k)).length:Nat),.int (z+(Yw (ZW l) (ge t k)).length:Nat),_] [4,6,7,8] U6 rfl ⟨iIx Zd,iFo hS hJ (Ze9 hJ l (ge t k)) Zc3,Z2 Zm,Ya (h0:=by have:=Zcr (m:=2000) (by omega) hl (ge t k);omega),trivial⟩ ?_))))
 refine ln 4 fun hl3=>?_
 refine qso tb hJ [0,1,2,3,5,1002] U3 U6 ?_
 refine cj 5 (fun hb3=>?_) fun hb3=>?_
 try simp at hb3
 have e3:ZaS (ZW l) t n=false:=by have h9:=XM (ZW l) t (k+1);rw[YZ (by omega),List.length_append]at h9;simp only[ZaS,decide_eq_false_iff_not];omega
 refine qso tb hJ [1000,1001] [_,_] [_,_] ?_
 refine tw (fun h=>Z3 h (m:=0) (s:=6) rfl) ?_
 exact Ze (fun a w h=>YM (m:=0) (k:=1) rfl (ZP h) rfl rfl (congrArg (fun z=>AV.rd (Zg z)) (show([]:List BA)=(if ZaS (ZW l) t n then XN (ZW l) t else [])from by simp[e3])) (eI (by simp[e3])))
 try simp at hb3
 refine Zb (nx (Yu tb hJ [0,1,2,4,1002] [_,.int (k+1:Nat),_] [1] U5 rfl ⟨Ya,trivial⟩ ?_))
 exact YH (k+1,z+(Yw (ZW l) (ge t k)).length) [0,1,2,4,3] ⟨by omega,by rw[YZ (by omega),List.length_append,f1_2],by omega⟩
 try simp at hb2
 have e4:ZaS (ZW l) t n=true:=by rw[ZF (xs:=t) (by omega)]at f1_2;simp only[ZaS,decide_eq_true_eq];omega
 refine Zt (nx (ZG tb hJ [1002,1003,1004] [_,_,.rd (Zg (XN (ZW l) t)),_,_] [2] U3 rfl ⟨iFo hS hJ (Zwj hJ t l (by simp only[ZaS,decide_eq_true_eq]at e4;omega)) Zsa,trivial⟩ ?_))
 refine ln 0 fun hl4=>?_
 exact Ze (fun a w h=>YM (m:=1) (k:=2) rfl (ZP h) rfl rfl (congrArg (fun z=>AV.rd (Zg z)) (show(XN (ZW l) t)=(if ZaS (ZW l) t n then XN (ZW l) t else [])from by simp[e4])) (eI (by simp[e4])))
theorem ZpE {J:World→Prop} (hJ:Stab J) (xs:List BA) (ys:List BA)  :Fn prog J 46 [.rd (Zg xs),.rd (Zg ys)] (.bool (decide (xs=ys))):=by
 refine Zo (N:=26) Tryz.func46 rfl rfl (lb rfl) fun S w0 hS hJ0=>?_
 clear hJ0
 refine ln 0 fun hl1=>?_
 refine ln 1 fun hl2=>?_
 refine qs tb hJ [0,1] [_] [_,_] ?_
 refine Zf (hqs tb hJ [0,1,1004] [_,.int (xs.length:Nat),_,.int (ys.length:Nat),_] [1,3] U3 rfl ⟨Z2 Zm,Z2 Zm,trivial⟩ ?_)
 refine cj 2 (fun hb1=>?_) fun hb1=>?_
 try simp at hb1
 refine qs tb hJ [1000] [_] [_] ?_
 exact Ze (rtn (m:=0) rfl rfl (eB (by first | rfl | grind[Zv])))
 try simp at hb1
 refine Zb (nx (Zf (qs tb hJ [0,1,1000] [_] U3 ?_)))
 refine Zc (lp (ι:=Nat) (fun k=>(k≤xs.length)∧(∀ j,j<k→ge xs j=ge ys j)) (fun k=>[(5,.int (k:Nat))]) (fun k=>xs.length-k) [0,1,2] [_,_] 0 (show(0≤xs.length)∧(∀ j,j<0→ge xs j=ge ys j)from by first | trivial | grind) ?_)
 rintro k ⟨f1_1,f1_2⟩
 refine Zf (hqs tb hJ [0,1,2,1003] [_,_,.int (xs.length:Nat),_] [2] U4 rfl ⟨Z2 Zm,trivial⟩ ?_)
 refine cj 3 (fun hb2=>?_) fun hb2=>?_
 try simp at hb2
 refine Zb (nx (Zf (Zc (hqs tb hJ [0,1,2,1008] [_,_,.ptr [lS (ge xs k)],_,_,_,.ptr [lS (ge ys k)],_,_] [2,6] U4 rfl ⟨iIx Zd,iIx Zd,trivial⟩ ?_))))
 refine cj 3 (fun hb3=>?_) fun hb3=>?_
 try simp at hb3
 refine qs tb hJ [1000] [_] [_] ?_
 exact Ze (rtn (m:=0) rfl rfl (eB (by first | rfl | grind[Zv])))
 try simp at hb3
 refine Zb (nx (hqp tb hJ [0,1,1002] [_,.int (k+1:Nat),_] [1] U3 rfl ⟨Ya,trivial⟩ ?_))
 exact lpE (k+1) [0,1,2] ⟨by first | omega | (simp;omega) | grind[Zv],by first | omega | (simp;omega) | grind[Zv]⟩
 try simp at hb2
 refine Zt (nx (qs tb hJ [1000] [_] [_] ?_))
 exact Ze (rtn (m:=0) rfl rfl (eB (by have:=Za3 (xs:=xs) (ys:=ys) (by omega) (fun j hj=>f1_2 j (by omega));simp[this])))
theorem Zwi {J:World→Prop} (hJ:Stab J) (t:List BA) (l:List Bd) (x:List BA)  :Fn prog J 119 [.rd (Zg t),.rd (ZdW l),.rd (Zg x)] (.bool (ZpY t l x)):=by
 refine Zo (N:=49) Tryz.func119 rfl rfl (lb rfl) fun S w0 hS hJ0=>?_
 refine tw Z1 ?_
 refine ln 0 fun hl1=>?_
 refine ln 1 fun hl2=>?_
 refine ln 2 fun hl3=>?_
 refine qso tb hJ [0,1,2] [_] U3 ?_
 refine qso tb hJ [0,1,2,1000] [_] U4 ?_
 refine Zf (qso tb hJ [0,1,2,3,1000] [_] U5 ?_)
 refine Zc (lpo (ι:=Nat×Nat) (fun(k,p)=>(k≤t.length)∧(p≤x.length)∧(x.take p=XN (ZW l) (t.take k))) (fun(_,_)=>[]) (fun(k,p)=>[(8,.int (k:Nat)),(7,.int (p:Nat))]) (fun(k,_)=>t.length-k) [0,1,2,4,3] U3 (0,0) ⟨Nat.zero_le _,Nat.zero_le _,rfl⟩ ?_)
 rintro⟨k,p⟩ ⟨f1_1,f1_2,f1_3⟩
 refine Zf (ZG tb hJ (r5 [1003]) [_,_,.int (t.length:Nat),_] [2] U6 rfl ⟨Z2 Zm,trivial⟩ ?_)
 refine cj 5 (fun hb1=>?_) fun hb1=>?_
 try simp at hb1
 refine Zb (nx (Zf (Zc (ZG tb hJ (r5 [1005,1006]) [_,_,_,.ptr [lS (ge t k)],_,.rd (Zg (Yw (ZW l) (ge t k))),_] [3,5] U7 rfl ⟨iIx Zd,iFo hS hJ (Ze9 hJ l (ge t k)) Zc3,trivial⟩ ?_))))
 refine ln 5 fun hl4=>?_
 refine Zf (ZG tb hJ (r5 [6,1018]) [_,.int ((Yw (ZW l) (ge t k)).length:Nat),_,.int (x.length:Nat),_,.int ((x.length:Int)-(p:Int)),_,_,_,_,_,_,_,.int ((Yw (ZW l) (ge t k)).length:Nat),.int (p+(Yw (ZW l) (ge t k)).length:Nat),.rd (Zg ((x.take (p+(Yw (ZW l) (ge t k)).length)).drop p)),.bool (decide ((Yw (ZW l) (ge t k))=((x.take (p+(Yw (ZW l) (ge t k)).length)).drop p))),_,_] [1,3,5,13,14,15,16] U7 rfl ⟨Z2 Zm,Z2 Zm,Zu8,Z2 Zm,fun _ _ _ hx hl hc=>Zfo (i:=(p:Int)) (j:=(((Yw (ZW l) (ge t k)).length:Nat):Int)) rfl (hl.D 11 33 rfl hc) (hl.D 13 35 rfl hc) (by have hc':((decide ((x.length:Int)-(p:Int)< (((Yw (ZW l) (ge t k)).length:Nat):Int)))==false)=true:=hc;(try simp at hc');(first | omega | (simp;omega) | grind[Zv])) (by have hc':((decide ((x.length:Int)-(p:Int)< (((Yw (ZW l) (ge t k)).length:Nat):Int)))==false)=true:=hc;(try simp at hc');(first | omega | (simp;omega) | grind[Zv])) hx,fun _ _ _ hx hl hc=>Yy (ys:=(x.take (p+(Yw (ZW l) (ge t k)).length)).drop p) (lo:=p) (hi:=p+(Yw (ZW l) (ge t k)).length) rfl Zd (fun _=>rfl) rfl (hl.D 9 31 rfl hc) (hl.D 10 32 rfl hc) (hl.D 14 36 rfl hc) (by have hc':((decide ((x.length:Int)-(p:Int)< (((Yw (ZW l) (ge t k)).length:Nat):Int)))==false)=true:=hc;(try simp at hc');(first | omega | (simp;omega) | grind[Zv])) (by have hc':((decide ((x.length:Int)-(p:Int)< (((Yw (ZW l) (ge t k)).length:Nat):Int)))==false)=true:=hc;(try simp at hc');(first | omega | (simp;omega) | grind[Zv])) hx,iFo hS hJ (ZpE hJ (Yw (ZW l) (ge t k)) ((x.take (p+(Yw (ZW l) (ge t k)).length)).drop p)) Zpq,trivial⟩ ?_)
 refine cj 6 (fun hb2=>?_) fun hb2=>?_
 have e3:ZpY t l x=false:=by rw[ZpY,decide_eq_false (Zuj hb1 f1_3 f1_2 (fun h9=>by have h8:(Yw (ZW l) (ge t k))=(x.take (p+(Yw (ZW l) (ge t k)).length)).drop p:=h9.2.symm;simp[←h8]at hb2;omega))]
 refine qso tb hJ [1000] [_] [_] ?_
 exact Ze (Xe (m:=0) rfl rfl (eB (e3.symm)))
 have e4:(Yw (ZW l) (ge t k)).length≤x.length-p∧(Yw (ZW l) (ge t k))=(x.take (p+(Yw (ZW l) (ge t k)).length)).drop p:=by simp only[Bool.or_eq_false_iff,decide_eq_false_iff_not,Bool.not_eq_false',decide_eq_true_eq]at hb2;exact⟨by omega,hb2.2⟩
 refine Zb (nx (Yu tb hJ [0,1,2,3,1004] [_,_,.int ((Yw (ZW l) (ge t k)).length:Nat),.int (p+(Yw (ZW l) (ge t k)).length:Nat),_] [2,3] U5 rfl ⟨Z2 Zm,Ya,trivial⟩ ?_))
 refine nx (Yu tb hJ [0,1,2,4,1002] [_,.int (k+1:Nat),_] [1] U5 rfl ⟨Ya,trivial⟩ ?_)
 exact YH (k+1,p+(Yw (ZW l) (ge t k)).length) [0,1,2,4,3] ⟨by omega,by omega,Znn hb1 f1_3 e4.2.symm⟩
 try simp at hb1
 refine Zt (nx (ZG tb hJ [1004] [_,_,.int (x.length:Nat),_,_] [2] [_] rfl ⟨Z2 Zm,trivial⟩ ?_))
 exact Ze (Xe (m:=0) rfl rfl (eB (by rw[ZpY,Zqr (by rw[f1_3,ZF (by omega)]) f1_2])))
theorem ZtH {J:World→Prop} (hJ:Stab J) (xs:List BA) (s:BA)  :Fn prog J 195 [.rd (Zg xs),.str s] (.bool (decide (s∈xs))):=by
 refine Zo (N:=18) Tryz.func195 rfl rfl (lb rfl) fun S w0 hS hJ0=>?_
 clear hJ0
 refine ln 0 fun hl1=>?_
 refine qs tb hJ [0,1] [_] [_,_] ?_
 refine Zf (qs tb hJ [0,1,1000] [_] U3 ?_)
 refine Zc (lp (ι:=Nat) (fun k=>(k≤xs.length)∧(∀ j,j<k→ge xs j≠s)) (fun k=>[(5,.int (k:Nat))]) (fun k=>xs.length-k) [0,1,2] [_,_] 0 (show(0≤xs.length)∧(∀ j,j<0→ge xs j≠s)from by first | trivial | grind) ?_)
 rintro k ⟨f1_1,f1_2⟩
 refine Zf (hqs tb hJ [0,1,2,1003] [_,_,.int (xs.length:Nat),_] [2] U4 rfl ⟨Z2 Zm,trivial⟩ ?_)
 refine cj 3 (fun hb1=>?_) fun hb1=>?_
 try simp at hb1
 refine Zb (nx (Zf (Zc (hqs tb hJ [0,1,2,1005] [_,_,.ptr [lS (ge xs k)],_,_,_] [2] U4 rfl ⟨iIx Zd,trivial⟩ ?_))))
 refine cj 3 (fun hb2=>?_) fun hb2=>?_
 try simp at hb2
 refine qs tb hJ [1000] [_] [_] ?_
 exact Ze (rtn (m:=0) rfl rfl (eB (by grind[Zv])))
 try simp at hb2
 refine Zb (nx (hqp tb hJ [0,1,1002] [_,.int (k+1:Nat),_] [1] U3 rfl ⟨Ya,trivial⟩ ?_))
 exact lpE (k+1) [0,1,2] ⟨by first | omega | (simp;omega) | grind[Zv],by first | omega | (simp;omega) | grind[Zv]⟩
 try simp at hb1
 refine Zt (nx (qs tb hJ [1000] [_] [_] ?_))
 exact Ze (rtn (m:=0) rfl rfl (eB (by grind[Xj])))
theorem ZtG {J:World→Prop} (hJ:Stab J) (t:List BA) (vs:List BA) (hb:t.length≤2000):Fn prog J 175 [.rd (Zg t),.rd (Zg vs)] (.rd (Zg (Qu t vs))):=by
 refine Zo (N:=37) Tryz.func175 rfl rfl (lb rfl) fun S w0 hS hJ0=>?_
 refine tw Z1 ?_
 refine ln 0 fun hl1=>?_
 refine ln 1 fun hl2=>?_
 refine qso tb hJ [0,1] [_] [_,_] ?_
 refine tsq ?_
 refine Xp Zd hJ rfl rfl rfl (lb rfl) fun v1=>?_
 refine snK 1 tb rfl ?_
 refine seK [0,2,3] U3 rfl ?_
 refine nx (Zf (qso tb hJ [0,1,2,1000] [_] U4 ?_))
 refine Zc (lpo (ι:=Nat×Value×(List BA)) (fun(k,_,out)=>(k≤t.length)∧(out=Qu (t.take k) vs)∧(out.length≤k)) (fun(_,v,out)=>[OB.row v 9 1 (out.map Zad)]) (fun(k,v,_)=>[(6,.int (k:Nat)),(5,.lit v)]) (fun(k,_,_)=>t.length-k) [1,2,3,0] [_,_] (0,v1,([]:List BA)) ⟨Nat.zero_le _,rfl,Nat.le_refl _⟩ ?_)
 rintro⟨k,v,out⟩ ⟨f1_1,f1_2,f1_3⟩
 refine Zf (ZG tb hJ [0,1,2,3,1003] [_,_,.int (t.length:Nat),_] [2] U5 rfl ⟨Z2 Zm,trivial⟩ ?_)
 refine cj 4 (fun hb1=>?_) fun hb1=>?_
 try simp at hb1
 refine Zb (nx (Zf (Zc (ZoI tb hJ [0,1,2,3,1014] [_,_,_,.ptr [lS (ge t k)],_,.bool (decide ((ge t k)∈vs)),_,_,_,_,.ptr [lS (ge t k)],_,.bool (decide ((ge t k)∈out)),_,_] [3,5,10,12] U5 rfl ⟨iIx Zd,iFr hS hJ (ZtH hJ vs (ge t k)) ZkZ,gIx Zd (hk:=fun(hc':((decide ((ge t k)∈vs))==true)=true)=>by(try simp at hc');first | omega | (simp;omega) | grind[Zv]),fun _ _ hk hx hl hc=>Zbw (ZtH hJ out (ge t k)) ZkZ rfl (nm hS hk) (hx.1) (Za (Qn hS hx (mo 0 rfl) (hl.D 7 21 rfl hc)) (Za (hl.D 11 25 rfl hc) Zh)) (jo hJ hx),trivial⟩ ?_))))
 refine cj 4 (fun hb2=>?_) fun hb2=>?_
 try simp at hb2
 refine ZE (snK 3 tb rfl ?_)
 refine sy (.ptr [lS (ge t k)]) (fun h=>ZO (i:=(k:Int)) Zd rfl (h.get 1 rfl) (h.get 0 rfl) (Int.natCast_nonneg _) (ZU (xs:=t) (k:=k) sfz) rfl h.x) ?_
 refine snK 1 tb rfl ?_
 refine sy (.rd (Zg ([(ge t k)]))) (fun h=>YD Zd ZaT rfl (h.get 0 rfl) (Zp hS _ h.keep h.x _ (Nat.le_refl _)) (jo hJ h.x)) ?_
 refine ZR (f:=Zad) (m:=5) (s:=29) out ([(ge t k)]) (fun _=>rfl) Xh hJ hJ0 rfl rfl rfl (lb rfl) rfl rfl (fun a w h=>(h.get 0 rfl)) sfz sfz fun v2=>?_
 refine snK 1 tb rfl ?_
 refine seK [0,2,8,9,10] U5 rfl ?_
 refine nx (ln 1 fun hl3=>?_)
 refine Yu tb hJ [0,2,3,1002] [_,.int (k+1:Nat),_] [1] U4 rfl ⟨Ya,trivial⟩ ?_
 exact YH (k+1,v2,out++([(ge t k)])) [1,2,3,0] ⟨by omega,by rw[ZcS (by omega),←f1_2];simp_all[ZhU],by simp;omega⟩
 try simp at hb2
 refine Zb (nx (Yu tb hJ [0,1,3,1002] [_,.int (k+1:Nat),_] [1] U4 rfl ⟨Ya,trivial⟩ ?_))
 exact YH (k+1,v,out) [0,1,3,2] ⟨by omega,by rw[ZcS (by omega),←f1_2];simp[ZhU];grind,by omega⟩
 try simp at hb1
 refine Zt (nx (qso tb hJ [1001] [_,_] [_] ?_))
 refine tw (fun h=>ZN hS h (m:=0) (s:=4) rfl) ?_
 exact Ze (Xe (m:=0) rfl rfl (congrArg (fun z=>AV.rd (Zg z)) (show out=(Qu t vs)from by rw[f1_2,ZF (by omega)])))
theorem ZpA {J:World→Prop} (hJ:Stab J) (pa:BA) (pb:BA)  :Fn prog J 176 [.str pa,.str pb] (.agg (prC (QB ⟨pa,pb⟩))):=by
 refine Zo (N:=14) Tryz.func176 rfl rfl (lb rfl) fun S w0 hS hJ0=>?_
 refine tw Z1 ?_
 refine tsq ?_
 refine Z4 XH hJ rfl rfl rfl (lb rfl) fun b1=>?_
 refine seK [0,1,2] U3 rfl ?_
 refine nx (Zf (qso tb hJ [0,1,2,1002] U3 U4 ?_))
 refine cj 3 (fun hb1=>?_) fun hb1=>?_
 try simp at hb1
 refine tsq ?_
 refine snK 2 tb rfl ?_
 refine sq (.agg (prC (⟨pb,pa⟩:Pr))) rfl rfl (lb rfl) (fun a _ h=>Xr (us:=[a.eval (.tmp 8),a.eval (.tmp 9)]) Zcu rfl (by simp) (Zk (h.get 1 rfl) (Zk (h.get 0 rfl) ZJ)) rfl h.x) ?_
 refine ZD (b:=b1) (off:=0) (es:=[_,_]) (news:=[_,_]) hJ hJ0 YK rfl rfl rfl (lb rfl) rfl (fun a w h=>⟨(h.get 3 rfl),(h.get 0 rfl)⟩) ?_
 refine seK [3] [_] rfl ?_
 exact nx (Ze (fun a w h=>X3 (m:=0) rfl YN h rfl rfl (show(_:List CD)=[lS ((QB ⟨pa,pb⟩).a),lS ((QB ⟨pa,pb⟩).b)]from by simp[QB,hb1])))
 try simp at hb1
 refine Zb (nx (tsq ?_))
 refine snK 2 tb rfl ?_
 refine sq (.agg (prC (⟨pa,pb⟩:Pr))) rfl rfl (lb rfl) (fun a _ h=>Xr (us:=[a.eval (.tmp 11),a.eval (.tmp 12)]) Zcu rfl (by simp) (Zk (h.get 1 rfl) (Zk (h.get 0 rfl) ZJ)) rfl h.x) ?_
 refine ZD (b:=b1) (off:=0) (es:=[_,_]) (news:=[_,_]) hJ hJ0 YK rfl rfl rfl (lb rfl) rfl (fun a w h=>⟨(h.get 3 rfl),(h.get 0 rfl)⟩) ?_
 refine seK [3] [_] rfl ?_
 exact nx (Ze (fun a w h=>X3 (m:=0) rfl YN h rfl rfl (show(_:List CD)=[lS ((QB ⟨pa,pb⟩).a),lS ((QB ⟨pa,pb⟩).b)]from by simp[QB,hb1])))
theorem Zmm {J:World→Prop} (hJ:Stab J) (l:List Bd) (ap:List Pr) (us:List BA) (hap:ap.length≤100000) (hl:∀ b∈l,b.text.length≤2000):Fn prog J 151 [.rd (ZdW l),.rd (Xc ap),.rd (Zg us)] (.rd (Xc (Zcf l ap us))):=by
 refine Zo (N:=63) Tryz.func151 rfl rfl (lb rfl) fun S w0 hS hJ0=>?_
 refine tw Z1 ?_
 refine ln 0 fun hl1=>?_
 refine ln 1 fun hl2=>?_
 refine ln 2 fun hl3=>?_
 refine qso tb hJ [0,1,2] [_] U3 ?_
 refine tsq ?_
 refine Xp Zu hJ rfl rfl rfl (lb rfl) fun v1=>?_
 refine snK 1 tb rfl ?_
 refine seK [0,2,3,4] U4 rfl ?_
 refine nx (Zf (qso tb hJ [0,1,2,3,1000] [_] U5 ?_))
 refine Zc (lpo (ι:=Nat×Value×(List Pr)) (fun(k,_,out)=>(k≤ap.length)∧(out=(ap.take k).flatMap (rqA l us))∧(out.length≤4000000*k)) (fun(_,v,out)=>[OB.row v 104 2 (out.map prC)]) (fun(k,v,_)=>[(8,.int (k:Nat)),(7,.lit v)]) (fun(k,_,_)=>ap.length-k) [1,2,3,4,0] U3 (0,v1,([]:List Pr)) ⟨Nat.zero_le _,rfl,by simp⟩ ?_)
 rintro⟨k,v,out⟩ ⟨f1_1,f1_2,f1_3⟩
 refine Zf (ZG tb hJ (r5 [1003]) [_,_,.int (ap.length:Nat),_] [2] U6 rfl ⟨Z2 ZL,trivial⟩ ?_)
 refine cj 5 (fun hb1=>?_) fun hb1=>?_
 ·
  try simp at hb1
  have ea:=Zkt (us:=us) (s:=(ge ap k).a) hl
  have eb:=Zkt (us:=us) (s:=(ge ap k).b) hl
  refine Zb (nx (Zf (Zc (Zf (Yu tb hJ (r5 [1006,1008,1009]) [_,_,_,.ptr (prC (ge ap k)),_,_,.rd (Zg (Yw (ZW l) ((ge ap k).a))),_,.rd (Zg (Qu (Yw (ZW l) ((ge ap k).a)) us)),_] [3,6,8] U8 rfl ⟨iIx Zu,iFo hS hJ (Ze9 hJ l ((ge ap k).a)) Zc3,iFo hS hJ (ZtG hJ (Yw (ZW l) ((ge ap k).a)) us (Zcr (m:=2000) (by omega) hl _)) Zk6,trivial⟩ ?_)))))
  refine kw (sa 7 rfl (show(.rd (Zg (Qu (Yw (ZW l) ((ge ap k).a)) us)):AV)= .rd (Zg (Q5 l us (ge ap k).a))from by rw[Zoc])) ?_
  refine nx (ln 5 fun hl4=>?_)
  refine ln 6 fun hl5=>?_
  refine ln 7 fun hl6=>?_
  refine Zf (Yu tb hJ (r5 [7,1006,1008,1009]) [_,_,_,.ptr (prC (ge ap k)),_,_,.rd (Zg (Yw (ZW l) ((ge ap k).b))),_,.rd (Zg (Qu (Yw (ZW l) ((ge ap k).b)) us)),_] [3,6,8] U9 rfl ⟨iIx Zu,iFo hS hJ (Ze9 hJ l ((ge ap k).b)) Zc3,iFo hS hJ (ZtG hJ (Yw (ZW l) ((ge ap k).b)) us (Zcr (m:=2000) (by omega) hl _)) Zk6,trivial⟩ ?_)
  refine kw (sa 8 rfl (show(.rd (Zg (Qu (Yw (ZW l) ((ge ap k).b)) us)):AV)= .rd (Zg (Q5 l us (ge ap k).b))from by rw[Zoc])) ?_
  refine nx (ln 6 fun hl7=>?_)
  refine ln 7 fun hl8=>?_
  refine ln 8 fun hl9=>?_
  refine qso tb hJ (r6 [8,1000]) [_] U8 ?_
  refine Zc (lpo (ι:=Nat×Value×(List Pr)) (fun(j,_,out2)=>(j≤(Q5 l us (ge ap k).a).length)∧(out2=(ap.take k).flatMap (rqA l us)++((Q5 l us (ge ap k).a).take j).flatMap (rqB l us (ge ap k)))∧(out2.length≤4000000*k+2000*j)) (fun(_,v2,out2)=>[OB.row v2 104 2 (out2.map prC)]) (fun(j,v2,_)=>[(11,.int (j:Nat)),(7,.lit v2)]) (fun(j,_,_)=>(Q5 l us (ge ap k).a).length-j) [0,1,2,3,5,6,7,4] U6 (0,v,out) ⟨Nat.zero_le _,by simp only[List.take_zero,List.flatMap_nil,List.append_nil];exact f1_2,by omega⟩ ?_)
  rintro⟨j,v2,out2⟩ ⟨f2_1,f2_2,f2_3⟩
  refine Zf (ZG tb hJ (r8 [1003]) [_,_,.int ((Q5 l us (ge ap k).a).length:Nat),_] [2] U9 rfl ⟨Z2 Zm,trivial⟩ ?_)
  refine cj 8 (fun hb2=>?_) fun hb2=>?_
  ·
   try simp at hb2
   refine Zb (nx (Zf (Zc (qso tb hJ (r8 [1000]) [_] U9 ?_))))
   refine Zc (lpo (ι:=Nat×Value×(List Pr)) (fun(i,_,out3)=>(i≤(Q5 l us (ge ap k).b).length)∧(out3=(ap.take k).flatMap (rqA l us)++((Q5 l us (ge ap k).a).take j).flatMap (rqB l us (ge ap k))++((Q5 l us (ge ap k).b).take i).map (fun y=>QB ⟨ge (Q5 l us (ge ap k).a) j,y⟩))∧(out3.length≤4000000*k+2000*j+i)) (fun(_,v3,out3)=>[OB.row v3 104 2 (out3.map prC)]) (fun(i,v3,_)=>[(12,.int (i:Nat)),(7,.lit v3)]) (fun(i,_,_)=>(Q5 l us (ge ap k).b).length-i) (r7 [8,7]) U7 (0,v2,out2) ⟨Nat.zero_le _,by simp only[List.take_zero,List.map_nil,List.append_nil];exact f2_2,by omega⟩ ?_)
   rintro⟨i,v3,out3⟩ ⟨f3_1,f3_2,f3_3⟩
   refine Zf (ZG tb hJ [0,1,2,3,4,5,6,7,8,1003] [_,_,.int ((Q5 l us (ge ap k).b).length:Nat),_] [2] U10 rfl ⟨Z2 Zm,trivial⟩ ?_)
   refine cj 9 (fun hb3=>?_) fun hb3=>?_
   ·
    try simp at hb3
    refine Zb (nx (Zf (Zc (fun a w h=>X1 [] (γ:=Value) (fun ix'=>([.lit v3,.rd (Zg (Q5 l us (ge ap k).a)),.int (j:Nat),.ptr [lS (ge (Q5 l us (ge ap k).a) j)],.str (ge (Q5 l us (ge ap k).a) j),.rd (Zg (Q5 l us (ge ap k).b)),.int (i:Nat),.ptr [lS (ge (Q5 l us (ge ap k).b) i)],.str (ge (Q5 l us (ge ap k).b) i),.agg (prC (QB ⟨(ge (Q5 l us (ge ap k).a) j),(ge (Q5 l us (ge ap k).b) i)⟩)),.rd (Xc ([(QB ⟨(ge (Q5 l us (ge ap k).a) j),(ge (Q5 l us (ge ap k).b) i)⟩)])),.any,.any]:List AV).getD ix' .any) (fun _=>true) [(0,fun(g:Value)=>.rd (ZdW l)),(1,fun(g:Value)=>.rd (Xc ap)),(2,fun(g:Value)=>.rd (Zg us)),(8,fun(g:Value)=>.int (k:Nat)),(9,fun(g:Value)=>.rd (Zg (Q5 l us (ge ap k).a))),(10,fun(g:Value)=>.rd (Zg (Q5 l us (ge ap k).b))),(11,fun(g:Value)=>.int (j:Nat)),(12,fun(g:Value)=>.int (i:Nat)),(7,fun(g:Value)=>.lit g)] (fun(j':Nat) (g:Value)=>match j' with | 0=>[OB.row v3 104 2 (out3.map prC)] | 1=>[OB.row g 104 2 ((out3++([(QB ⟨(ge (Q5 l us (ge ap k).a) j),(ge (Q5 l us (ge ap k).b) i)⟩)])).map prC)] | _=>[OB.row g 104 2 ((out3++([(QB ⟨(ge (Q5 l us (ge ap k).a) j),(ge (Q5 l us (ge ap k).b) i)⟩)])).map prC)]) (fun(k':Nat) (g:Value)=>match k' with | 0=>g | 1=>g | _=>undef) [11,12] 2 (.slice none 0 0) (fun _=>rfl) h hJ YC rfl rfl rfl rfl rfl rfl hsb ⟨?_,⟨?_,⟨?_,⟨?_,⟨?_,⟨?_,⟨?_,⟨?_,⟨?_,⟨?_,⟨?_,⟨?_,⟨?_,trivial⟩⟩⟩⟩⟩⟩⟩⟩⟩⟩⟩⟩⟩ ⟨?e13_1_0,⟨?e13_1_1,trivial⟩⟩ ⟨.old 0 0 _ rfl rfl,⟨.old 1 1 _ rfl rfl,⟨.old 2 2 _ rfl rfl,⟨.old 3 8 _ rfl rfl,⟨.old 4 9 _ rfl rfl,⟨.old 5 10 _ rfl rfl,⟨.old 6 11 _ rfl rfl,⟨.old 7 12 _ rfl rfl,⟨.eff 1 12 7 (fun(g:Value)=>g) rfl rfl (fun _=>rfl) (fun _ _ hx=>Zan (hx.2.1 _ (mo 0 rfl))),trivial⟩⟩⟩⟩⟩⟩⟩⟩⟩ ?n13_1))))
    exact oX rfl fun hx hl=>Z5 rfl (hl.env 8 7 _ rfl rfl) hx
    exact oX rfl fun hx hl=>Z5 rfl (hl.env 4 9 _ rfl rfl) hx
    exact oX rfl fun hx hl=>Z5 rfl (hl.env 6 11 _ rfl rfl) hx
    exact fun _ O' _=>⟨rfl,fun a _ _ hx hl _=>ZO (i:=(j:Int)) Zd rfl (hl.D 1 51 rfl rfl) (hl.D 2 52 rfl rfl) (Int.natCast_nonneg _) (ZU (xs:=(Q5 l us (ge ap k).a)) (k:=j) sfz) rfl hx⟩
    exact oX rfl fun hx hl=>ZI QP rfl (hl.D 3 53 rfl rfl) hx
    exact oX rfl fun hx hl=>Z5 rfl (hl.env 5 10 _ rfl rfl) hx
    exact oX rfl fun hx hl=>Z5 rfl (hl.env 7 12 _ rfl rfl) hx
    exact oX rfl fun hx hl=>ZO (i:=(i:Int)) Zd rfl (hl.D 5 55 rfl rfl) (hl.D 6 56 rfl rfl) (Int.natCast_nonneg _) (ZU (xs:=(Q5 l us (ge ap k).b)) (k:=i) sfz) rfl hx
    exact oX rfl fun hx hl=>ZI QP rfl (hl.D 7 57 rfl rfl) hx
    exact fun _ O' _=>⟨rfl,fun a _ hk hx hl _=>Zbw (ZpA hJ (ge (Q5 l us (ge ap k).a) j) (ge (Q5 l us (ge ap k).b) i)) Zk5 rfl (Zp hS _ hk hx) (hx.1) (Za (hl.D 4 54 rfl rfl) (Za (hl.D 8 58 rfl rfl) Zh)) (jo hJ hx)⟩
    exact oY rfl fun hk hx hl=>Y7 Zu Zgd (by decide) rfl rfl (hl.D 9 59 rfl rfl) (Zp hS _ hk hx _ (Nat.le_refl _)) (jo hJ hx)
    exact Zn rfl
    exact Zn rfl
    case e13_1_0=>exact⟨_,rfl,rfl,rfl,rfl,fun _ a w hk hx hl _=>ZB (Qp (f:=prC) out3 ([(QB ⟨(ge (Q5 l us (ge ap k).a) j),(ge (Q5 l us (ge ap k).b) i)⟩)]) (fun _=>rfl) Zcb hJ hJ0 rfl hk hx (hl.D 0 50 rfl rfl).lit (hl.D 10 60 rfl rfl) (by simp;omega) (by simp;omega)) fun v w' hp=>⟨v,rfl,fun k' hk'=>absurd hk' (Nat.not_lt_zero _),fun _=>rfl,hp⟩⟩
    case e13_1_1=>exact⟨_,rfl,rfl,rfl,rfl,fun g _ w hk hx _ hs=>ZB (Zbk (.inl rfl) (hs 0 11 _ 61 (by omega) rfl rfl rfl) hk hx) fun v w' hp=>⟨g,rfl,fun _ _=>rfl,fun _=>hp.1,hp.2⟩⟩
    clear a w h
    intro v2
    dsimp only[List.map]
    refine nx (ln 4 fun hl10=>?_)
    refine ln 5 fun hl11=>?_
    refine Yu tb hJ (r7 [8,1002]) [_,.int (i+1:Nat),_] [1] U9 rfl ⟨Ya,trivial⟩ ?_
    exact YH (i+1,v2,out3++([(QB ⟨(ge (Q5 l us (ge ap k).a) j),(ge (Q5 l us (ge ap k).b) i)⟩)])) (r7 [8,7]) ⟨by omega,by rw[Q9 (by omega),←List.append_assoc,←f3_2],by simp;omega⟩
   ·
    try simp at hb3
    refine Zt (nx (Yu tb hJ (r6 [8,1002]) [_,.int (j+1:Nat),_] [1] U8 rfl ⟨Ya,trivial⟩ ?_))
    exact YH (j+1,v3,out3) (r6 [7,6]) ⟨by omega,by rw[ZeO (by omega),←List.append_assoc,←f2_2,f3_2,ZF (xs:=(Q5 l us (ge ap k).b)) (by omega),←f2_2];rfl,by omega⟩
  ·
   try simp at hb2
   refine Zt (nx (Yu tb hJ [0,1,2,7,1002] [_,.int (k+1:Nat),_] [1] U5 rfl ⟨Ya,trivial⟩ ?_))
   exact YH (k+1,v2,out2) [0,1,2,4,3] ⟨by omega,by rw[ZeO (by omega),←f1_2,f2_2,ZF (xs:=(Q5 l us (ge ap k).a)) (by omega),←f1_2];rfl,by omega⟩
 ·
  try simp at hb1
  refine Zt (nx (qso tb hJ [1001] [_,_] [_] ?_))
  refine tw (fun h=>ZN hS h (m:=0) (s:=6) rfl) ?_
  exact Ze (Xe (m:=0) rfl rfl (congrArg (fun z=>AV.rd (Xc z)) (show out=(Zcf l ap us)from by rw[f1_2,ZF (by omega),Zno])))
theorem ZpC {J:World→Prop} (hJ:Stab J) (wd:List Pr) (x:Pr)  :Fn prog J 152 [.rd (Xc wd),.agg (prC x)] (.bool (decide (x∈wd.map QB))):=by
 refine Zo (N:=25) Tryz.func152 rfl rfl (lb rfl) fun S w0 hS hJ0=>?_
 refine tw Z1 ?_
 refine ln 0 fun hl1=>?_
 refine ZG tb hJ [0,1000] [.ptr (prC x),_] [0] [_,_] rfl ⟨fun _ _ hk hx hl _=>Yq rfl (hl.env 1 1 _ rfl rfl) (Zp hS _ hk hx _ (Nat.le_refl _)) (jo hJ hx),trivial⟩ ?_
 refine Zf (qso tb hJ [0,1,1000] [_] U3 ?_)
 refine Zc (lpo (ι:=Nat) (fun k=>(k≤wd.length)∧(∀ j,j<k→¬ QB (ge wd j)=x)) (fun _=>[]) (fun k=>[(5,.int (k:Nat))]) (fun k=>wd.length-k) [0,1,2] [_,_] 0 ⟨Nat.zero_le _,fun j hj=>by omega⟩ ?_)
 rintro k ⟨f1_1,f1_2⟩
 refine Zf (ZG tb hJ [0,1,2,1003] [_,_,.int (wd.length:Nat),_] [2] U4 rfl ⟨Z2 ZL,trivial⟩ ?_)
 refine cj 3 (fun hb1=>?_) fun hb1=>?_
 try simp at hb1
 refine Zb (nx (Zf (Zc (ZG tb hJ [0,1,2,1012] [_,_,.ptr (prC (ge wd k)),_,_,_,_,.ptr (prC (ge wd k)),_,_,.agg (prC (QB ⟨((ge wd k).a),((ge wd k).b)⟩)),_,.bool (decide ((QB ⟨((ge wd k).a),((ge wd k).b)⟩).a=x.a)&&decide ((QB ⟨((ge wd k).a),((ge wd k).b)⟩).b=x.b))] [2,7,10,12] U4 rfl ⟨iIx Zu,iIx Zu,iFo hS hJ (ZpA hJ ((ge wd k).a) ((ge wd k).b)) Zk5,fun _ _ _ hx hl _=>Znz Zf0 rfl (hl.D 10 22 rfl rfl) (hl.D 11 23 rfl rfl) hx,trivial⟩ ?_))))
 refine cj 3 (fun hb2=>?_) fun hb2=>?_
 try simp at hb2
 refine qso tb hJ [1000] [_] [_] ?_
 exact Ze (Xe (m:=0) rfl rfl (eB (by rw[decide_eq_true (Zus hb1 (prEq_iff.1 (by simpa [Zfj]using hb2)))])))
 try simp at hb2
 refine Zb (nx (Yu tb hJ [0,1,1002] [_,.int (k+1:Nat),_] [1] U3 rfl ⟨Ya,trivial⟩ ?_))
 exact YH (k+1) [0,1,2] ⟨by omega,ZK f1_2 (fun e=>by simp[e]at hb2)⟩
 try simp at hb1
 refine Zt (nx (qso tb hJ [1000] [_] [_] ?_))
 exact Ze (Xe (m:=0) rfl rfl (eB (by rw[decide_eq_false (ZqM fun j hj=>f1_2 j (by omega))])))
theorem ZpI {J:World→Prop} (hJ:Stab J) (l:List Bd) (ap:List Pr) (us:List BA) (wd:List Pr) (hap:ap.length≤100000) (hl:∀ b∈l,b.text.length≤2000):Fn prog J 121 [.rd (ZdW l),.rd (Xc ap),.rd (Zg us),.rd (Xc wd)] (.tup [.agg (prC (ZdR l ap us wd)),.bool (ZdV l ap us wd)]):=by
 refine Zo (N:=47) Tryz.func121 rfl rfl (lb rfl) fun S w0 hS hJ0=>?_
 refine tw Z1 ?_
 refine ln 0 fun hl1=>?_
 refine ln 1 fun hl2=>?_
 refine ln 2 fun hl3=>?_
 refine ln 3 fun hl4=>?_
 refine tsq ?_
 refine Z4 XH hJ rfl rfl rfl (lb rfl) fun b1=>?_
 refine snK 1 tb rfl ?_
 refine seK [1,2,3,4,5] U5 rfl ?_
 refine nx (ZG tb hJ [0,4,1003,1004] [_,_,_,.rd (Xc (Zcf l ap us)),_] [3] U4 rfl ⟨iFo hS hJ (Zmm hJ l ap us sfz sfz) Zr9,trivial⟩ ?_)
 refine ln 2 fun hl5=>?_
 refine Zf (qso tb hJ [0,1,3,1000] [_] U4 ?_)
 refine Zc (lpo (ι:=Nat) (fun k=>(k≤(Zcf l ap us).length)∧(∀ j,j<k→Zfc wd (ge (Zcf l ap us) j)=false)) (fun _=>[OB.var b1 [lS (⟨#[]⟩:BA),lS (⟨#[]⟩:BA)]]) (fun k=>[(11,.int (k:Nat))]) (fun k=>(Zcf l ap us).length-k) [0,1,2,3] U3 0 ⟨Nat.zero_le _,fun j hj=>by omega⟩ ?_)
 rintro k ⟨f1_1,f1_2⟩
 refine Zf (ZG tb hJ [0,1,2,3,1003] [_,_,.int ((Zcf l ap us).length:Nat),_] [2] U5 rfl ⟨Z2 ZL,trivial⟩ ?_)
 refine cj 4 (fun hb1=>?_) fun hb1=>?_
 try simp at hb1
 refine Zb (nx (Zf (Zc (ZG tb hJ [0,1,2,3,1019] [_,_,.ptr (prC (ge (Zcf l ap us) k)),_,_,_,_,.ptr (prC (ge (Zcf l ap us) k)),_,_,_,_,_,_,_,.ptr (prC (ge (Zcf l ap us) k)),_,.bool (decide ((ge (Zcf l ap us) k)∈wd.map QB)),_,_] [2,7,15,17] U5 rfl ⟨iIx Zu,iIx Zu,gIx Zu (hk:=fun(hc':((decide (((ge (Zcf l ap us) k).a)=((ge (Zcf l ap us) k).b)))==false)=true)=>by(try simp at hc');first | omega | (simp;omega) | grind[Zv]),iFo hS hJ (ZpC hJ wd (ge (Zcf l ap us) k)) Zr8,trivial⟩ ?_))))
 refine cj 4 (fun hb2=>?_) fun hb2=>?_
 have e3:ZjG l ap us wd=some (ge (Zcf l ap us) k):=brk_at hb1 f1_2 (by rw[←hb2,Zfc,Bool.or_comm])
 refine tsq ?_
 refine snK 2 tb rfl ?_
 refine sy (.ptr (prC (ge (Zcf l ap us) k))) (fun h=>ZO (i:=(k:Int)) Zu rfl (h.get 1 rfl) (h.get 0 rfl) (Int.natCast_nonneg _) (ZU (xs:=(Zcf l ap us)) (k:=k) sfz) rfl h.x) ?_
 refine snK 1 tb rfl ?_
 refine ZD (b:=b1) (off:=0) (es:=[_,_]) (news:=[_,_]) hJ hJ0 YK rfl rfl rfl (lb rfl) rfl (fun a w h=>⟨(h.get 4 rfl),(h.get 0 rfl)⟩) ?_
 refine snK 1 tb rfl ?_
 refine seK [0,5] [_,_] rfl ?_
 exact nx (Ze (fun a w h=>Q1 (m:=1) (q:=0) rfl YN h rfl rfl (show(_:List CD)=[lS ((ZdR l ap us wd).a),lS ((ZdR l ap us wd).b)]from by simp[ZdR, *]) rfl (eB (by simp[ZdV, *]))))
 have e4:Zfc wd (ge (Zcf l ap us) k)=false:=by rw[←hb2,Zfc,Bool.or_comm]
 refine Zb (nx (Yu tb hJ [0,1,2,1002] [_,.int (k+1:Nat),_] [1] U4 rfl ⟨Ya,trivial⟩ ?_))
 exact YH (k+1) [0,1,2,3] ⟨by omega,ZK f1_2 e4⟩
 try simp at hb1
 have e5:ZjG l ap us wd=none:=Zwl fun j hj=>f1_2 j (by omega)
 refine Zt (nx (tsq ?_))
 refine sy (.agg (prC (⟨⟨#[]⟩,⟨#[]⟩⟩:Pr))) (fun h=>Yh (ps:=[]) (us:=[.string ⟨#[]⟩,.string ⟨#[]⟩]) Zf7 rfl (by simp) Zdd rfl (YB (.lit _ (Nat.zero_le _)) (YB (.lit _ (Nat.zero_le _)) ZJ)) h.x) ?_
 refine ZD (b:=b1) (off:=0) (es:=[_,_]) (news:=[_,_]) hJ hJ0 YK rfl rfl rfl (lb rfl) rfl (fun a w h=>⟨(h.get 1 rfl),(h.get 0 rfl)⟩) ?_
 refine snK 1 tb rfl ?_
 refine seK [0,2] [_,_] rfl ?_
 exact nx (Ze (fun a w h=>Q1 (m:=1) (q:=0) rfl YN h rfl rfl (show(_:List CD)=[lS ((ZdR l ap us wd).a),lS ((ZdR l ap us wd).b)]from by simp[ZdR, *]) rfl (eB (by simp[ZdV, *]))))
end Go.Proofs.YtneapgbkkkjagaaGreatDoor
namespace Go.Proofs.YtneapgbkkkjagaaGreatDoor
open Go.RowKit
theorem ZnF:∀(r:List Value) (s off:Nat) (pre old post:List Value),pre.length=off+s→old.length=r.length→
 (r.zipIdx s).foldl (fun(cs:Array Value) (x:Value×Nat)=>cs.setIfInBounds (off+x.2) x.1) (pre++old++post).toArray=(pre++r++post).toArray
 | [],s,off,pre,old,post,_,h2=>by
  have:old=[]:=List.length_eq_zero_iff.1 (by simpa using h2)
  subst this
  rfl
 | v::r,s,off,pre,old,post,h1,h2=>by
  match old,h2 with
  | u::old,h2=>
   rw[List.zipIdx_cons,List.foldl_cons]
   have e:((pre++u::old++post).toArray.setIfInBounds (off+s) v)=((pre++[v])++old++post).toArray:=by
    rw[List.setIfInBounds_toArray]
    congr 1
    rw[List.append_assoc,List.set_append_right _ _ (by omega),h1.symm,Nat.sub_self]
    simp
   rw[e,ZnF r (s+1) off (pre++[v]) old post (by simp;omega) (by simpa using h2)]
   simp
theorem Zih {k:Nat}:∀(rows:List (List Value)) (i:Nat) (pre z:List Value),pre.length=i*k→z.length=rows.length*k→(∀ r∈rows,r.length=k)→
 Instr.fill (fun i=>some (i*k,k)) (pre++z).toArray ((rows.zipIdx i).map fun p=>(p.2,Value.agg p.1.toArray))=some (pre++rows.flatten).toArray
 | [],i,pre,z,_,h2,_=>by
  have:z=[]:=List.length_eq_zero_iff.1 (by simpa using h2)
  subst this
  simp[Instr.fill]
 | r::rows,i,pre,z,h1,h2,h3=>by
  have hr:=h3 r (by simp)
  have hz:z.length=k+rows.length*k:=by rw[h2,List.length_cons,Nat.succ_mul,Nat.add_comm]
  have hcell:(Value.agg r.toArray).cells=r.toArray:=rfl
  simp only[List.zipIdx_cons,List.map_cons,Instr.fill,hcell]
  rw[if_neg (by simp[hr];omega)]
  have e:(Array.foldl (fun cs (x:Value×Nat)=>cs.setIfInBounds (i*k+x.snd) x.fst) (pre++z).toArray r.toArray.zipIdx)=((pre++r)++z.drop k).toArray:=by
   have:=ZnF r 0 (i*k) pre (z.take k) (z.drop k) h1 (by rw[List.length_take];omega)
   rw[List.append_assoc pre,List.take_append_drop]at this
   rw[←this]
   simp
  rw[e,Zih rows (i+1) (pre++r) (z.drop k) (by rw[List.length_append,h1,hr,Nat.succ_mul]) (by rw[List.length_drop];omega) fun q hq=>h3 q (by simp[hq])]
  simp
section
variable {n:Rn} {N:Nat} {P:Program} {J X:World→Prop} {S S' S'':Nat→Prop} {O:List OB} {w0:World} {env:List (Nat×AV)} {Q:Exit→Act→World→Prop}
variable {o:Oper} {a:Act} {w:World} {t e u:TypeId} {x y:Operand}
theorem Znm {k:Nat}:∀ {cs:List (List CD)} {vs:List Value},RelL S w (cs.map AV.agg) vs→(∀ r∈cs,r.length=k)→
 ∃ us:List (List Value),vs=us.map (fun r=>Value.agg r.toArray)∧us.length=cs.length∧(∀ r∈us,r.length=k)∧RdL S w cs.flatten us.flatten
 | [],vs,h,_=>by
  simp only[List.map_nil,RelL]at h
  subst h
  exact⟨[],rfl,rfl,by simp,trivial⟩
 | c::cs,vs,h,hk=>by
  simp only[List.map_cons,RelL]at h
  obtain⟨v,vs',rfl,h1,h2⟩:=h
  simp only[Rel]at h1
  obtain⟨u,rfl,hr⟩:=h1
  obtain⟨us,rfl,hl,hk2,hr2⟩:=Znm (cs:=cs) h2 fun r hr=>hk r (by simp[hr])
  refine⟨u::us,rfl,by simp[hl],fun r hr3=>?_,?_⟩
  · rcases List.mem_cons.1 hr3 with rfl | hr3
    · rw[hr.length];exact hk c (by simp)
    · exact hk2 r hr3
  · rw[List.flatten_cons,List.flatten_cons]
    exact hr.append hr2
theorem Zke {k m:Nat} {cs:List (List CD)} {vs:List Value} {z:Array Value} {parts:Array (Nat×Operand)} (ht:Yv P t e k) (hz:∀ w,(zeroValue e).run P w= .ok (.agg z) w) (hop:o.op= .buildSlice t m parts) (hp:(parts.map fun(i,x)=>(i,a.eval x)).toList=vs.zipIdx.map fun p=>(p.2,p.1)) (h:RelL S w (cs.map AV.agg) vs) (hk:∀ r∈cs,r.length=k) (hl:cs.length=m) (h1:1≤k) (hm:1≤m*k) (hm2:m*k≤16777216)
 (hS:S w.heap.size) (hx:∀ w',Keeps All w w'→X w'):Yk n P o a w (YG S X (.rd (.sl cs)) w):=by
 obtain⟨us,rfl,hul,huk,hall⟩:=Znm h hk
 have hfl:us.flatten.length=m*k:=by
  have:∀ us:List (List Value),(∀ r∈us,r.length=k)→us.flatten.length=us.length*k:=by
   intro us
   induction us with
   | nil=>simp
   | cons r us ih=>intro h;rw[List.flatten_cons,List.length_append,h r (by simp),ih fun q hq=>h q (by simp[hq]),List.length_cons,Nat.succ_mul,Nat.add_comm]
  rw[this us huk,hul,hl]
 have hf:=Zih us 0 [] ((List.range (m*k)).map (z[· %z.size]!)) (by simp) (by simp[hul,hl]) huk
 have hf2:Instr.fill (fun i=>some (i*k,k)) ((Array.range (m*k)).map (z[· %z.size]!)) (parts.map fun(i,x)=>(i,a.eval x)).toList=some us.flatten.toArray:=by
  rw[hp,List.zipIdx_map,List.map_map]
  have e:(Array.range (m*k)).map (z[· %z.size]!)=([]++(List.range (m*k)).map (z[· %z.size]!)).toArray:=by
   apply Array.ext'
   simp[Array.toList_range]
  rw[e]
  exact hf
 have hk':Keeps All w (w.alloc (.cells us.flatten.toArray e)):=(Keeps.refl _ _).alloc _
 refine Z8 (v:=.slice (some ⟨w.heap.size,0,none⟩) m m) (w':=w.alloc (.cells us.flatten.toArray e)) ?_ ⟨?_,hk',hx _ hk'⟩
 · have hcz:(Value.agg z).cells=z:=rfl
   rw[execOp,hop]
   simp only[Sem.run_bind,Instr.buildSlice,run_underlying ht.1,Result.andThen_ok,ht.2 w]
   simp[newRow,newObj]
   rw[hz w]
   simp only[Result.andThen_ok,hcz]
   have hf3:=hf2
   simp only[Array.toList_map]at hf3
   simp only[hf3]
   rw[if_neg (by omega),if_neg (by omega)]
   rfl
 · simp only[Rel]
   rw[show(m:Nat)=cs.length from hl.symm]
   refine Rd.of_cells (n:=k) (us:=us.flatten) (Nat.le_refl _) (by rw[hl];exact Nat.le_trans (Nat.le_mul_of_pos_right m h1) (Nat.le_trans hm2 (by decide))) (by simp) hS hk (hall.keep hk' fun _ _ _=>trivial) fun j u hj=>ZaJ j u hj
def ZpX (P:Program) (t:TypeId):Prop:=∀(ad:Option Addr) (k c:Nat) (p q:Int),P.built t [(0,.slice ad k c),(1,.agg #[.int .i64 p,.int .i64 q])]=some #[.slice ad k c,.int .i64 p,.int .i64 q]
theorem Zcc {c d:Int} {v:Value} (h:Rel S w (.agg [.lit (.int .i64 c),.lit (.int .i64 d)]) v):v= .agg #[.int .i64 c,.int .i64 d]:=by
 simp only[Rel]at h
 obtain⟨us,rfl,hr⟩:=h
 match us,hr with
 | [p,q],hr=>
  obtain rfl:=hr.1.of_lit
  obtain rfl:=hr.2.1.of_lit
  rfl
theorem ZbH {xs:List BA} {p q:Int} (ht:ZpX P t) (hop:o.op= .build t #[(0,x),(1,y)]) (h1:Rel S w (.rd (Zg xs)) (a.eval x)) (h2:Rel S w (.agg [.lit (.int .i64 p),.lit (.int .i64 q)]) (a.eval y)) (hx:X w):
 Yk n P o a w (YG S X (.agg [Zg xs,.lit (.int .i64 p),.lit (.int .i64 q)]) w):=by
 have v2:=Zcc h2
 simp only[Rel]at h1
 have g1:=h1
 obtain⟨ad,cap,e1,_,_⟩:=g1.form
 have hrun:=run_build (P:=P) w t #[(0,a.eval x),(1,a.eval y)] #[a.eval x,.int .i64 p,.int .i64 q] (by rw[v2,e1];exact ht ad _ cap p q)
 refine ZC (v:=.agg #[a.eval x,.int .i64 p,.int .i64 q]) ?_ ?_ hx
 · rw[execOp,hop]
   simp only[List.map_toArray,List.map_cons,List.map_nil,Sem.run_bind,hrun]
   rfl
 · simp only[Rel]
   exact⟨[a.eval x,.int .i64 p,.int .i64 q],rfl,h1,.lit _ True.intro,.lit _ True.intro,trivial⟩
def EqVd (P:Program) (t:TypeId):Prop:=∀(a b c d:Int) (w:World) (x y:Operand),(eqGuard .eql t x y (.agg #[.int .i64 a,.int .i64 b]) (.agg #[.int .i64 c,.int .i64 d])).run P w= .ok () w∧(eqGuard .neq t x y (.agg #[.int .i64 a,.int .i64 b]) (.agg #[.int .i64 c,.int .i64 d])).run P w= .ok () w∧
 (Op.equal t (.agg #[.int .i64 a,.int .i64 b]) (.agg #[.int .i64 c,.int .i64 d])).run P w= .ok (decide (a=c)&&decide (b=d)) w
theorem r_eqlV {c d c' d':Int} (ht:EqVd P t) (hop:o.op= .binOp .eql t x y u) (h1:Rel S w (.agg [.lit (.int .i64 c),.lit (.int .i64 d)]) (a.eval x)) (h2:Rel S w (.agg [.lit (.int .i64 c'),.lit (.int .i64 d')]) (a.eval y)) (hx:X w):
 Yk n P o a w (YG S X (.bool (decide (c=c')&&decide (d=d'))) w):=by
 obtain⟨g1,_,g3⟩:=ht c d c' d' w x y
 refine ZC (v:=.bool (decide (c=c')&&decide (d=d'))) ?_ (Rel.of_lit _) hx
 rw[execOp,hop]
 simp only[Zcc h1,Zcc h2,Sem.run_bind,g1,Result.andThen_ok,binOp,g3]
 rfl
theorem Ztj {c d c' d':Int} (ht:EqVd P t) (hop:o.op= .binOp .neq t x y u) (h1:Rel S w (.agg [.lit (.int .i64 c),.lit (.int .i64 d)]) (a.eval x)) (h2:Rel S w (.agg [.lit (.int .i64 c'),.lit (.int .i64 d')]) (a.eval y)) (hx:X w):
 Yk n P o a w (YG S X (.bool (!(decide (c=c')&&decide (d=d')))) w):=by
 obtain⟨_,g1,g3⟩:=ht c d c' d' w x y
 refine ZC (v:=.bool (!(decide (c=c')&&decide (d=d')))) ?_ (Rel.of_lit _) hx
 rw[execOp,hop]
 simp only[Zcc h1,Zcc h2,Sem.run_bind,g1,Result.andThen_ok,binOp,g3]
 rfl
end
section
variable {n:Rn} {P:Program} {X:World→Prop} {S:Nat→Prop} {o:Oper} {a:Act} {w:World} {x y:Operand} {t:TypeId}
def ZjK (P:Program) (t:TypeId):Prop:=P.built t []=some #[.slice none 0 0,.int .i64 0,.bool false,.int .i64 0,.int .i64 0]∧
 ∀ p q:Int,P.built t [(2,.bool true),(3,.agg #[.int .i64 p,.int .i64 q])]=some #[.slice none 0 0,.int .i64 0,.bool true,.int .i64 p,.int .i64 q]
theorem ZnC (ht:ZjK P t) (hop:o.op= .build t #[]) (hx:X w):Yk n P o a w (YG S X (.agg [Yg [],.lit (.int .i64 0),.lit (.bool false),.lit (.int .i64 0),.lit (.int .i64 0)]) w):=by
 have hrun:=run_build (P:=P) w t #[] #[.slice none 0 0,.int .i64 0,.bool false,.int .i64 0,.int .i64 0] ht.1
 refine ZC (v:=.agg #[.slice none 0 0,.int .i64 0,.bool false,.int .i64 0,.int .i64 0]) ?_ ?_ hx
 · rw[execOp,hop]
   simp only[List.map_toArray,List.map_nil,Sem.run_bind,hrun]
   rfl
 · simp only[Rel]
   exact⟨[.slice none 0 0,.int .i64 0,.bool false,.int .i64 0,.int .i64 0],rfl,.nil none 0 (Nat.zero_le _),.lit _ True.intro,.lit _ True.intro,.lit _ True.intro,.lit _ True.intro,trivial⟩
theorem ZnB {p q:Int} (ht:ZjK P t) (hop:o.op= .build t #[(2,.const (.bool true)),(3,y)]) (h2:Rel S w (.agg [.lit (.int .i64 p),.lit (.int .i64 q)]) (a.eval y)) (hx:X w):
 Yk n P o a w (YG S X (.agg [Yg [],.lit (.int .i64 0),.lit (.bool true),.lit (.int .i64 p),.lit (.int .i64 q)]) w):=by
 have v2:=Zcc h2
 have hrun:=run_build (P:=P) w t #[(2,.bool true),(3,a.eval y)] #[.slice none 0 0,.int .i64 0,.bool true,.int .i64 p,.int .i64 q] (by rw[v2];exact ht.2 p q)
 refine ZC (v:=.agg #[.slice none 0 0,.int .i64 0,.bool true,.int .i64 p,.int .i64 q]) ?_ ?_ hx
 · rw[execOp,hop]
   have e:(#[(2,Operand.const (.bool true)),(3,y)]:Array (Nat×Operand)).map (fun(i,x)=>(i,a.eval x))= #[(2,.bool true),(3,a.eval y)]:=by simp only[List.map_toArray,List.map_cons,List.map_nil];rfl
   simp only[e,Sem.run_bind,hrun]
   rfl
 · simp only[Rel]
   exact⟨[.slice none 0 0,.int .i64 0,.bool true,.int .i64 p,.int .i64 q],rfl,.nil none 0 (Nat.zero_le _),.lit _ True.intro,.lit _ True.intro,.lit _ True.intro,.lit _ True.intro,trivial⟩
def ZpU (P:Program) (t:TypeId):Prop:=∀(a b c p q:Value) (w:World),(Instr.field t (.agg #[a,b,c,p,q]) 3).run P w= .ok (.agg #[p,q]) w
theorem ZqF {c0 c1 c2:CD} {p q:Int} (ht:ZpU P t) (hop:o.op= .field t x 3) (h:Rel S w (.agg [c0,c1,c2,.lit (.int .i64 p),.lit (.int .i64 q)]) (a.eval x)) (hx:X w):
 Yk n P o a w (YG S X (.agg [.lit (.int .i64 p),.lit (.int .i64 q)]) w):=by
 simp only[Rel]at h
 obtain⟨us,e,hr⟩:=h
 match us,e,hr with
 | [u0,u1,u2,u3,u4],e,hr=>
  obtain rfl:=hr.2.2.2.1.of_lit
  obtain rfl:=hr.2.2.2.2.1.of_lit
  refine ZC (v:=.agg #[.int .i64 p,.int .i64 q]) ?_ ?_ hx
  · rw[execOp,hop]
    simp only[e,Sem.run_bind,ht u0 u1 u2 _ _ w]
    rfl
  · simp only[Rel]
    exact⟨[.int .i64 p,.int .i64 q],rfl,.lit _ True.intro,.lit _ True.intro,trivial⟩
end
end Go.Proofs.YtneapgbkkkjagaaGreatDoor
