/-
  THE ENGINE: a store into a part of an element of an own row; texts one behind the other.
  LETTERS, ONE BY ONE (plain): what the reference's loop knows.
  CONTRACTS of the reference: letters.
  WHAT THE STACK MACHINE KEEPS (plain).
  WHAT IS READ CAN BE WORKED (plain).
  WHAT A RIGHT DATABASE GIVES THE STACK MACHINE (plain).
  PLAIN LAW: labels of a right database.
  THE REFERENCE OF VERDICTS AS DATA (plain): substitution, items, steps.
  THE REFERENCE's MACHINE AND THE PROGRAM's (plain): item by item, step by step.
  THE REFERENCE's RUN AND THE PROGRAM's (plain).
  CONTRACTS of the reference: substitution.
  THE ENGINE: rows of structs from given parts; a struct of a row and a verdict; verdicts compared.
  THE ENGINE: a state of the reference's machine, built empty or with a verdict.
  CONTRACTS of the reference: steps of a proof.
-/
import Derived.Test.YtneapgbkkkjagaaGreatDoorYAC
import Derived.Laws.Concat
namespace Go.Proofs.YtneapgbkkkjagaaGreatDoor
open Go.RowKit
section
variable {n:Rn} {N:Nat} {P:Program} {J X:WP} {S S' S'':Nat→Prop} {O:List OB} {w0:World} {env:List (Nat×AV)} {Q:Exit→Act→WP}
variable {o:Oper} {a:Act} {w:World} {x y:Operand} {t e:TypeId} {v:Value} {k:Nat} {rows:List (List CD)}
theorem Zpy {c:CD} {r:List CD} {i j:Nat} (hJ:Stab J) (hJ0:J w0) (hs:XR P t 1) (hop:o.op= .store t x y) (hk0:Keeps All w0 w) (hx:XO J S w0.heap.size (OB.row v e k rows::O) w) (h1:Rel S' w (.lit (Y8 v (i*k+j))) (a.eval x))
 (h2:Rel (SO S (OB.row v e k rows::O)) w (.rd c) (a.eval y)) (hrow:rows[i]?=some r) (hj:j<r.length):
 Yj n P o a w fun _ w'=>Zbp J S w0 (OB.row v e k rows::O) w (OB.row v e k (rows.set i (r.set j c))::O) w':=by
 have hl:i<rows.length:=(List.getElem?_eq_some_iff.1 hrow).1
 obtain⟨g,cap,old,cur,rfl,hlo,hg,hnc,hcm,hcs,htake,hul,hrd,hlen⟩:=ZaD (hx.2.1 (OB.row v e k rows) yz) oz
 simp only[Rel]at h2
 have hv:(a.eval y).cells.toList=[a.eval y]:=by rw[ZbR h2.one]
 have hge:rows[i]=r:=(List.getElem?_eq_some_iff.1 hrow).2
 have hrk:r.length=k:=hlen r (hge▸List.getElem_mem hl)
 have hik:i*k+j+1≤rows.length*k:=by
  have:=Nat.mul_le_mul_right k hl
  rw[Nat.succ_mul]at this
  omega
 have hset:(rows.set i (r.set j c)).flatten=rows.flatten.take (i*k+j)++[c]++rows.flatten.drop (i*k+j+1):=by
  have hd:rows.flatten.drop (i*k)=r++rows.flatten.drop (i*k+k):=by
   rw[Za5 rows i hlen,List.drop_eq_getElem_cons hl,hge,List.flatten_cons,show i*k+k=(i+1)*k by rw[Nat.add_mul];omega,Za5 rows (i+1) hlen]
  have hd2:rows.flatten.drop (i*k+j+1)=r.drop (j+1)++rows.flatten.drop (i*k+k):=by
   rw[show i*k+j+1=i*k+(j+1) by omega,←List.drop_drop,hd,List.drop_append_of_le_length oz]
  have hd3:rows.flatten.take (i*k+j)=rows.flatten.take (i*k)++r.take j:=by
   rw[List.take_add,hd,List.take_append_of_le_length oz]
  rw[Zk9 rows i (r.set j c) hlen hl,hd3,hd2,List.set_eq_take_append_cons_drop,if_pos hj]
  simp
 have hlen':∀ q∈rows.set i (r.set j c),q.length=k:=fun q hq=>by
  rcases List.mem_or_eq_of_mem_set hq with h | rfl
  · exact hlen q h
  · rw[List.length_set];exact hrk
 generalize hp:i*k+j=p at*
 have hrc:rows.length*k≤cap*k:=Nat.mul_le_mul_right k hnc
 have hr:RdL (SO S (OB.row (.slice (some ⟨g,0,none⟩) rows.length cap) e k rows::O)) w [c] [a.eval y]:=⟨h2,trivial⟩
 have hrun:=Qp (P:=P) (ty:=t) (o:=p) (cur:=cur.toList) (t:=e) hv (by simpa using hs) (by simpa using hg) (by simp;omega) hr.one
 have hlt:g<w.heap.size:=(Array.getElem?_eq_some_iff.1 hg).1
 have hk:Keeps (fun b=>¬ (OB.row (.slice (some ⟨g,0,none⟩) rows.length cap) e k rows).blk b) w (w.setRow g (cur.toList.take p++[a.eval y]++cur.toList.drop (p+ [a.eval y].length)).toArray):=
  (QZ (g:=g)).sub fun b _ hb e=>hb (by simp[OB.row,Value.ownBlock,e])
 have hsub:∀ b,b<w.heap.size→SO S (OB.row (.slice (some ⟨g,0,none⟩) rows.length cap) e k rows::O) b→(¬ (OB.row (.slice (some ⟨g,0,none⟩) rows.length cap) e k rows).blk b)∧SO S (OB.row (.slice (some ⟨g,0,none⟩) rows.length cap) e k (rows.set i (r.set j c))::O) b:=fun b _ hs=>⟨hs.2 (OB.row (.slice (some ⟨g,0,none⟩) rows.length cap) e k rows) yz,hs.1,fun p hp=>by
  rcases List.mem_cons.1 hp with rfl | hp
  · exact hs.2 (OB.row (.slice (some ⟨g,0,none⟩) rows.length cap) e k rows) yz
  · exact hs.2 p (List.mem_cons_of_mem _ hp)⟩
 refine Za8 (w':=w.setRow g (cur.toList.take p++[a.eval y]++cur.toList.drop (p+ [a.eval y].length)).toArray) ?_ (ZaA hJ hJ0 hk0 hx hk (fun b hb=>.inl hb) ⟨old.take p++[a.eval y]++old.drop (p+1),⟨?_,.inr ⟨g,cap,_,?_,hlo,setRow_heap w g _ _ e _ hg,?_,hcm,?_,?_⟩⟩,?_,hlen'⟩)
 · have hv':=h1.lit
   simp only[Y8]at hv'
   rw[execOp,hop]
   simp only[hv',Sem.run_bind,hrun]
   rfl
 · simp;omega
 · simp
 · simpa using hnc
 · simp;omega
 · simp only[List.length_set]
   rw[←htake]
   exact ZgF cur.toList p (rows.length*k) [a.eval y] (by simpa using hik) (by simp;omega)
 · rw[hset]
   exact(((hrd.take p).move hk hsub).append (hr.move hk hsub)).append ((hrd.drop (p+1)).move hk hsub)
theorem ZlT {ops:Array Oper} {rest:List Oper} {c:CD} {r:List CD} {i j:Nat} (hJ:Stab J) (hJ0:J w0) (hs:XR P t 1) (hg:o.guard=none) (hd:o.dst=none) (hop:o.op= .store t x y) (hrow:rows[i]?=some r) (hj:j<r.length)
 (h1:∀ a w,So J S w0 N (OB.row v e k rows::O) env a w→Rel (SO S (OB.row v e k rows::O)) w (.lit (Y8 v (i*k+j))) (a.eval x)∧Rel (SO S (OB.row v e k rows::O)) w (.rd c) (a.eval y))
 (next:∀ a w,So J S w0 N (OB.row v e k (rows.set i (r.set j c))::O) env a w→wpListIn n.F n.d P ops Q rest a w):
 ∀ a w,So J S w0 N (OB.row v e k rows::O) env a w→wpListIn n.F n.d P ops Q (o::rest) a w:=
 Zf0 (O2:=fun _:Unit=>_) hg hd (fun a w h=>by
  obtain⟨g1,g2⟩:=h1 a w h
  exact Zx (Zpy hJ hJ0 hs hop h.keep h.x g1 g2 hrow hj) fun _ _ hp=>⟨(),hp⟩) fun _=>next
end
theorem r_addS {n:Rn} {P:Program} {X:WP} {S:Nat→Prop} {o:Oper} {a:Act} {w:World} {x y:Operand} {t u:TypeId} {i j:BA} (hop:o.op= .binOp .add t x y u) (h1:Rel S w (.str i) (a.eval x)) (h2:Rel S w (.str j) (a.eval y)) (hl:i.size+j.size≤9223372036854775807) (hx:X w):Yj n P o a w (YB S X (.str (i++j)) w):=
 Q4 (v:=.string (i++j)) (show(i++j).size≤maxLen by rw[ByteArray.size_append];exact hl) (Za1 ..) (by simp only[binOp];exact run_string_add_sum w i j hl) hop h1 h2 hx
theorem Zao {J:WP} {S:Nat→Prop} {N:Nat} {P:Program} {w0:World} {env:List (Nat×AV)} {fn:Func} {t u x m k l:Nat} {a1 a2 a3 r1 r2 r3:AV} {a:Act} {w:World} (hr:fn.results= #[.tmp t,.tmp u,.tmp x]) (h:St All S w0 N env J a w) (he:env[m]?=some (t,a1)) (he2:env[k]?=some (u,a2)) (he3:env[l]?=some (x,a3)) (hE:a1=r1) (hE2:a2=r2) (hE3:a3=r3):bodyPost P fn (fun e w'=>∃ v,e= .returned v∧Rel S w' (.tup [r1,r2,r3]) v∧Keeps All w0 w'∧J w') .ret a w:=by
 subst hE;subst hE2;subst hE3
 exact⟨h.defs,.tuple #[a.tmps.getD t undef,a.tmps.getD u undef,a.tmps.getD x undef],by simp[results,hr,Sem.run_pure],_,rfl,by simp only[Rel,RelL];exact⟨_,rfl,_,_,rfl,h.get m he,_,_,rfl,h.get k he2,_,_,rfl,h.get l he3,rfl⟩,h.keep,h.x⟩
end Go.Proofs.YtneapgbkkkjagaaGreatDoor
namespace Go.Proofs.YtneapgbkkkjagaaGreatDoor
def ZtG (D:List UInt8) (i:Nat) (out:List Lt) (n:Int) (ins fresh:Bool):Prop:=
 (fresh=true→ins=false∧n=0∧∃ pre x,out=pre++[⟨x,false⟩]∧lettersD D 0 false=if i<D.length∧(ge D i).toNat=90 then(pre++⟨x,true⟩::(lettersD (D.drop (i+1)) 0 false).1,(lettersD (D.drop (i+1)) 0 false).2)else(out++(lettersD (D.drop i) 0 false).1,(lettersD (D.drop i) 0 false).2))∧
 (fresh=false→lettersD D 0 false=(out++(lettersD (D.drop i) n ins).1,(lettersD (D.drop i) n ins).2))
section
variable {D:List UInt8} {i:Nat} {out:List Lt} {n:Int} {ins fresh:Bool}
theorem Zmo:ZtG D 0 [] 0 false false:=⟨fun h=>(by cases h),fun _=>by simp⟩
theorem Zap (h:ZtG D i out n ins fresh) (hc:¬ (i<D.length∧(ge D i).toNat=90)):lettersD D 0 false=(out++(lettersD (D.drop i) n ins).1,(lettersD (D.drop i) n ins).2):=by
 cases hf:fresh with
 | false=>exact h.2 hf
 | true=>
  obtain⟨h1,h2,pre,x,h3,h4⟩:=h.1 hf
  subst h1
  subst h2
  rw[if_neg hc]at h4
  exact h4
theorem Zr5 (h:ZtG D i out n ins fresh) (hi:¬ i<D.length):lettersD D 0 false=(out,ins):=by
 rw[Zap h (fun e=>hi e.1),Zjw hi]
 simp
variable (h:ZtG D i out n ins fresh) (hi:i<D.length)
include h hi
theorem invR_A (h1:65≤(ge D i).toNat∧(ge D i).toNat≤84) (h2:¬ 1000000<20*n+(((ge D i).toNat:Int)-65)+1):ZtG D (i+1) (out++[⟨20*n+(((ge D i).toNat:Int)-65)+1,false⟩]) 0 false true:=by
 have hb:=Zap h (fun e=>by omega)
 refine⟨fun _=>⟨rfl,rfl,out,_,rfl,?_⟩,fun e=>by cases e⟩
 by_cases h4:i+1<D.length∧(ge D (i+1)).toNat=90
 · rw[if_pos h4,hb,let_Z hi oz h1 h2 h4.1 h4.2]
 · rw[if_neg h4,hb,let_N hi oz h1 h2 h4]
   simp
theorem Zr6 (h1:65≤(ge D i).toNat∧(ge D i).toNat≤84) (h2:1000000<20*n+(((ge D i).toNat:Int)-65)+1):(lettersD D 0 false).2=true:=by
 rw[Zap h (fun e=>by omega),ZoO hi oz h1 h2]
theorem invR_U (h1:85≤(ge D i).toNat∧(ge D i).toNat≤89) (h2:¬ 1000000<5*n+(((ge D i).toNat:Int)-85)+1):ZtG D (i+1) out (5*n+(((ge D i).toNat:Int)-85)+1) true false:=by
 refine⟨fun e=>(by cases e),fun _=>?_⟩
 rw[Zap h (fun e=>by omega),ZrS hi h1,if_neg h2]
theorem Zo7 (h1:85≤(ge D i).toNat∧(ge D i).toNat≤89) (h2:1000000<5*n+(((ge D i).toNat:Int)-85)+1):(lettersD D 0 false).2=true:=by
 rw[Zap h (fun e=>by omega),ZrS hi h1,if_pos h2]
theorem invR_Z (h1:(ge D i).toNat=90) (hf:fresh=true):0<out.length∧ZtG D (i+1) (out.set (out.length-1) ⟨(ge out (out.length-1)).number,true⟩) n ins false:=by
 obtain⟨h5,h6,pre,x,h3,h4⟩:=h.1 hf
 rw[h5,h6]
 rw[if_pos ⟨hi,h1⟩]at h4
 subst h3
 refine⟨by simp,fun e=>(by cases e),fun _=>?_⟩
 have e1:(pre++[(⟨x,false⟩:Lt)]).length-1=pre.length:=by simp
 have e2:ge (pre++[(⟨x,false⟩:Lt)]) pre.length=⟨x,false⟩:=by simp[ge]
 rw[e1,e2,h4]
 simp
theorem Zo6 (h1:(ge D i).toNat=90) (hf:fresh=false):(lettersD D 0 false).2=true:=by
 rw[h.2 hf,Zjx hi oz oz oz]
theorem invR_Q (h1:(ge D i).toNat=63) (h2:ins=false):ZtG D (i+1) (out++[⟨0,false⟩]) n ins false:=by
 refine⟨fun e=>(by cases e),fun _=>?_⟩
 rw[Zap h (fun e=>by omega),let_Q hi oz oz h1 h2]
 simp
theorem Zk0 (h1:¬ (65≤(ge D i).toNat∧(ge D i).toNat≤84)) (h2:¬ (85≤(ge D i).toNat∧(ge D i).toNat≤89)) (h3:¬ (ge D i).toNat=90) (h4:¬ ((ge D i).toNat=63∧ins=false)):(lettersD D 0 false).2=true:=by
 rw[Zap h (fun e=>h3 e.2),Zjx hi h2 h1 h4]
end
theorem idx_mem {l:List BA} {s:BA}:0≤Yn (isV s) l↔s∈l:=by
 constructor
 · intro h
   have h1:=Zaq (p:=isV s) (xs:=l) oz
   have h2:s=ge l (Yn (isV s) l).toNat:=by simpa [isV]using h1.2.2.1
   rw[h2]
   exact Zu h1.2.1
 · intro h
   have h2:=Zb8 (isV s) l
   have h3:l.any (isV s)=true:=List.any_eq_true.2 ⟨s,h,by simp[isV]⟩
   rw[h3]at h2
   simpa using h2
def Zwf (l:List BA):BA:=l.foldl (fun a b=>a++b) ⟨#[]⟩
theorem Zlh {l:List BA} {k:Nat} (h:k<l.length):Zwf (l.take (k+1))=Zwf (l.take k)++ge l k:=ZbN h
theorem Zlk (l:List BA):(Zwf l).data.toList=(l.map (·.data.toList)).flatten:=by
 have key:∀(l:List BA) (a:BA),(l.foldl (fun a b=>a++b) a).data.toList=a.data.toList++(l.map (·.data.toList)).flatten:=by
  intro l
  induction l with
  | nil=>intro a;simp
  | cons x r ih=>intro a;rw[List.foldl_cons,ih];simp
 exact(key l ⟨#[]⟩).trans yz
theorem Zip:∀ l:List (List UInt8),Lib.join l []=l.flatten
 | []=>rfl
 | x::r=>by rw[Lib.join_cons,Lib.joinTail];simp
theorem Zlj (l:List BA):Zbk l ⟨#[]⟩=Zwf l:=by
 unfold Zbk
 have h:Lib.join (l.map (·.data.toList)) (⟨#[]⟩:BA).data.toList=(Zwf l).data.toList:=by
  rw[Zlk]
  exact Zip _
 rw[h]
theorem Zli (l:List BA):(Zwf l).size=ZaV l:=by
 have h:=congrArg List.length (Zlk l)
 rw[←Zip,Zg4]at h
 exact h
theorem Znq (l:List BA) (k:Nat):ZaV (l.take k)≤ZaV l:=by
 have h:ZaV (l.take k++l.drop k)=ZaV (l.take k)+ZaV (l.drop k):=by
  unfold ZaV
  rw[List.map_append,List.sum_append]
 rw[List.take_append_drop]at h
 omega
abbrev Zsd (t:List BA):Nat:=(Yn (isV ⟨#[41]⟩) t).toNat
abbrev Xm (t:List BA):List BA:=(t.take (Zsd t)).drop 1
abbrev Yd (t:List BA):BA:=Zbk (t.drop (Zsd t+1)) ⟨#[]⟩
def QX (t:List BA):List BA×List Lt×Int:=
 if Q0 t=true then
  match XI t with
  | none=>([],[],20)
  | some z=>if QD z.1=true then([],[],20)else if(Zj z.2).2=true then([],[],21)else if 2000< (Zj z.2).1.length then([],[],10)else(z.1,(Zj z.2).1,0)
 else([],[],2)
theorem le_2 {t:List BA} (h:Q0 t=false):QX t=([],[],2):=by
 unfold QX
 rw[if_neg (by simp[h])]
section
variable {t:List BA} (h0:Q0 t=true)
include h0
theorem ZrT (h:XI t=none):QX t=([],[],20):=by
 unfold QX
 rw[if_pos h0,h]
variable {z:List BA×BA} (hz:XI t=some z)
include hz
theorem Zg3 (h:QD z.1=true):QX t=([],[],20):=by
 unfold QX
 rw[if_pos h0,hz]
 exact if_pos h
variable (h1:QD z.1=false)
include h1
theorem Zmk:QX t=if(Zj z.2).2=true then([],[],21)else if 2000< (Zj z.2).1.length then([],[],10)else(z.1,(Zj z.2).1,0):=by
 unfold QX
 rw[if_pos h0,hz]
 exact if_neg (by simp[h1])
theorem le_21 (h:(Zj z.2).2=true):QX t=([],[],21):=by rw[Zmk h0 hz h1,if_pos h]
variable (h2:(Zj z.2).2=false)
include h2
theorem le_10 (h:2000< (Zj z.2).1.length):QX t=([],[],10):=by rw[Zmk h0 hz h1,if_neg (by simp[h2]),if_pos h]
theorem le_ok (h:¬ 2000< (Zj z.2).1.length):QX t=(z.1,(Zj z.2).1,0):=by rw[Zmk h0 hz h1,if_neg (by simp[h2]),if_neg h]
end
theorem Zqt {l:List BA}:(l.any fun w=>!QK w)= !l.all QK:=by
 induction l with
 | nil=>rfl
 | cons x r ih=>rw[List.any_cons,List.all_cons,ih,Bool.not_and]
theorem ZoR {t:List BA} (h1:¬ Yn (isV ⟨#[41]⟩) t<0) (h2:(Xm t).all QK=true):XI t=some (Xm t,Yd t):=ZkJ h1 (by rw[Zqt,h2];rfl)
theorem le_bad {t:List BA} (h0:Q0 t=true) (h:Yn (isV ⟨#[41]⟩) t<0∨(Xm t).all QK=false∨QD (Xm t)=true):QX t=([],[],20):=by
 by_cases h1:Yn (isV ⟨#[41]⟩) t<0
 · exact ZrT h0 (ZgS h1)
 by_cases h2:(Xm t).all QK=true
 · refine Zg3 h0 (ZoR h1 h2) ?_
   rcases h with h | h | h
   · exact absurd h h1
   · rw[h2]at h;cases h
   · exact h
 · exact ZrT h0 (ZhU h1 (by rw[Zqt];simpa using h2))
theorem ZvK {t:List BA} (h0:Q0 t=true) (h:((decide (Yn (isV ⟨#[41]⟩) t<0)|| !((Xm t).all QK))||QD (Xm t))=true):QX t=([],[],20):=by
 refine le_bad h0 ?_
 rw[Bool.or_eq_true,Bool.or_eq_true,decide_eq_true_eq,Bool.not_eq_true']at h
 rcases h with(h | h) | h
 · exact .inl h
 · exact .inr (.inl h)
 · exact .inr (.inr h)
theorem ZrU {t:List BA} (h:((decide (Yn (isV ⟨#[41]⟩) t<0)|| !((Xm t).all QK))||QD (Xm t))=false):¬ Yn (isV ⟨#[41]⟩) t<0∧XI t=some (Xm t,Yd t)∧QD (Xm t)=false:=by
 rw[Bool.or_eq_false_iff,Bool.or_eq_false_iff,decide_eq_false_iff_not]at h
 obtain⟨⟨h1,h2⟩,h3⟩:=h
 have h4:(Xm t).all QK=true:=by cases h5:(Xm t).all QK with
  | true=>rfl
  | false=>rw[h5]at h2;cases h2
 exact⟨h1,ZoR h1 h4,h3⟩
theorem Zfx (t:List BA) (k:Nat):(Zbk (t.drop k) ⟨#[]⟩).size≤ZaV t:=by
 rw[Zlj,Zli]
 exact ZcU t k
theorem ZnP {S:Nat→Prop} {w:World} {v:Value} {i:Int} (h0:0≤i) (h:Rel S w (.int i) v):Rel S w (.int ((i.toNat:Nat):Int)) v:=by
 rw[Int.toNat_of_nonneg h0]
 exact h
end Go.Proofs.YtneapgbkkkjagaaGreatDoor
set_option maxHeartbeats 8000000
set_option maxRecDepth 100000
namespace Go.Proofs.YtneapgbkkkjagaaGreatDoor
open Go.Proofs.Tryz (prog)
open Go.RowKit
theorem Zgp:Zcy prog 121 [.int .i64 0,.bool false]:=⟨fun i=>(#[(0,1),(1,1)]:Array (Nat×Nat))[i]?,fun j hj=>by rcases j with _ | _ | j<;>first | rfl | (simp at hj;omega),fun parts=>by kernel_rfl⟩
section
variable {J:WP} (hJ:Stab J)
include hJ
theorem Zd5 (l:List BA)  :Fn prog J 65 [.rd (Zf l)] (.bool (Q0 l)):=by
 refine fE Tryz.func65 fun S w0 hS hJ0=>?_
 clear hJ0
 refine ln 0 fun hl1=>?_
 refine qs tb hJ [0] [_] [_] ?_
 refine hqs tb hJ [1009] [_,.int (l.length:Nat),_,_,_,.ptr [lS (ge l 0)],_,_,_,_] [1,5] [_] rfl ⟨Z3 Zm,gIx (k:=0) Zd (hk:=fun(hc':((decide ((0:Int)< (l.length:Int)))==true)=true)=>by(try simp at hc');first | omega | (simp;omega) | grind[Zu]),trivial⟩ ?_
 exact tRn 0 (hE:=eB (by unfold Q0;by_cases h9:0<l.length<;>simp[h9]))
theorem Zhq (xs:List BA) (s:BA)  :Fn prog J 68 [.rd (Zf xs),.str s] (.int (Yn (isV s) xs)):=by
 refine fE Tryz.func68 fun S w0 hS hJ0=>?_
 clear hJ0
 refine ln 0 fun hl1=>?_
 refine qs tb hJ [0,1] [_] U2 ?_
 refine Ze (qs tb hJ [0,1,1000] [_] U3 ?_)
 refine Zc (lp (ι:=Nat) (fun k=>(k≤xs.length)∧(∀ j,j<k→isV s (ge xs j)=false)) (fun k=>[(5,.int (k:Nat))]) (fun k=>xs.length-k) [0,1,2] U2 0 ⟨nzl,fun j hj=>by omega⟩ ?_)
 rintro k ⟨f1_1,f1_2⟩
 refine Ze (hqs tb hJ [0,1,2,1003] [_,_,.int (xs.length:Nat),_] [2] U4 rfl ⟨Z3 Zm,trivial⟩ ?_)
 refine cj 3 (fun hb1=>?_) fun hb1=>?_
 ·
  try simp at hb1
  refine Zb (nx (Ze (Zc (hqs tb hJ [0,1,2,1005] [_,_,.ptr [lS (ge xs k)],_,_,_] [2] U4 rfl ⟨iIx Zd,trivial⟩ ?_))))
  refine cj 3 (fun hb2=>?_) fun hb2=>?_
  ·
   try simp at hb2
   refine qs tb hJ [1001] U2 [_] ?_
   exact tRn 0 (hE:=eI (by first | exact(Xk hb1 (by simp only[isV,decide_eq_true_eq];exact hb2.symm) f1_2).symm | exact(YU fun j hj=>f1_2 j oz).symm))
  ·
   try simp at hb2
   refine Zb (nx (hqp tb hJ [0,1,1002] [_,.int (k+1:Nat),_] [1] U3 rfl ⟨Z7,trivial⟩ ?_))
   exact lpE (k+1) [0,1,2] ⟨oz,ZK f1_2 (by simp only[isV,decide_eq_false_iff_not];exact fun e=>hb2 e.symm)⟩
 ·
  try simp at hb1
  refine Zs (nx (qs tb hJ [1000] [_] [_] ?_))
  exact tRn 0 (hE:=eI (by first | exact(Xk hb1 (by simp only[isV,decide_eq_true_eq];exact hb2.symm) f1_2).symm | exact(YU fun j hj=>f1_2 j oz).symm))
theorem ZwU (l:List BA)  :Fn prog J 118 [.rd (Zf l)] (.bool (QD l)):=by
 refine fE Tryz.func118 fun S w0 hS hJ0=>?_
 clear hJ0
 refine ln 0 fun hl1=>?_
 refine qs tb hJ [0] [_] [_] ?_
 refine Ze (qs tb hJ [0,1000] [_] U2 ?_)
 refine Zc (lp (ι:=Nat) (fun k=>(k≤l.length)∧(∀ j,j<k→¬ ge l j∈l.take j)) (fun k=>[(3,.int (k:Nat))]) (fun k=>l.length-k) [0,1] [_] 0 ⟨nzl,fun j hj=>by omega⟩ ?_)
 rintro k ⟨f1_1,f1_2⟩
 refine Ze (hqs tb hJ [0,1,1003] [_,_,.int (l.length:Nat),_] [2] U3 rfl ⟨Z3 Zm,trivial⟩ ?_)
 refine cj 2 (fun hb1=>?_) fun hb1=>?_
 ·
  try simp at hb1
  refine Zb (nx (Ze (Zc (hqs tb hJ [0,1,1002,1008] [_,_,.rd (Zf (l.take k)),_,_,.ptr [lS (ge l k)],_,.int (Yn (isV (ge l k)) (l.take k)),_] [2,5,7] U4 rfl ⟨fun _ _ _ hx hl _=>Yy (ys:=l.take k) (lo:=0) (hi:=k) List.drop_zero Zd (fun _=>rfl) rfl (hl.D 0 10 rfl rfl) rfl (hl.D 1 11 rfl rfl) sfz sfz hx,iIx Zd,iFn hS hJ (Zhq hJ (l.take k) (ge l k)) Zhl,trivial⟩ ?_))))
  refine ln 2 fun hl2=>?_
  refine cj 3 (fun hb2=>?_) fun hb2=>?_
  ·
   try simp at hb2
   refine qs tb hJ [1000] [_] [_] ?_
   exact tRn 0 (hE:=eB (by first | (rw[ZeE hb1 (idx_mem.1 oz)]) | (rw[ZgE fun j hj=>f1_2 j oz])))
  ·
   try simp at hb2
   refine Zb (nx (hqp tb hJ [0,1002] [_,.int (k+1:Nat),_] [1] U2 rfl ⟨Z7,trivial⟩ ?_))
   exact lpE (k+1) [0,1] ⟨oz,ZK f1_2 (fun e=>by have h9:=idx_mem.2 e;omega)⟩
 ·
  try simp at hb1
  refine Zs (nx (qs tb hJ [1000] [_] [_] ?_))
  exact tRn 0 (hE:=eB (by first | (rw[ZeE hb1 (idx_mem.1 oz)]) | (rw[ZgE fun j hj=>f1_2 j oz])))
theorem Ztq (l:List BA)  :Fn prog J 117 [.rd (Zf l)] (.bool (l.all QK)):=by
 refine fE Tryz.func117 fun S w0 hS hJ0=>?_
 clear hJ0
 refine ln 0 fun hl1=>?_
 refine qs tb hJ [0] [_] [_] ?_
 refine Ze (qs tb hJ [0,1000] [_] U2 ?_)
 refine Zc (lp (ι:=Nat) (fun k=>(k≤l.length)∧(∀ j,j<k→QK (ge l j)=true)) (fun k=>[(3,.int (k:Nat))]) (fun k=>l.length-k) [0,1] [_] 0 ⟨nzl,fun j hj=>by omega⟩ ?_)
 rintro k ⟨f1_1,f1_2⟩
 refine Ze (hqs tb hJ [0,1,1003] [_,_,.int (l.length:Nat),_] [2] U3 rfl ⟨Z3 Zm,trivial⟩ ?_)
 refine cj 2 (fun hb1=>?_) fun hb1=>?_
 ·
  try simp at hb1
  refine Zb (nx (Ze (Zc (hqs tb hJ [0,1,1005] [_,_,.ptr [lS (ge l k)],_,.bool (QK (ge l k)),_] [2,4] U3 rfl ⟨iIx Zd,iFn hS hJ (Zdk hJ (ge l k)) Zhi,trivial⟩ ?_))))
  refine cj 2 (fun hb2=>?_) fun hb2=>?_
  ·
   try simp at hb2
   refine qs tb hJ [1000] [_] [_] ?_
   exact tRn 0 (hE:=eB (by first | (rw[QI hb1 (by simpa using hb2)]) | (rw[Zqs fun j hj=>f1_2 j oz])))
  ·
   try simp at hb2
   refine Zb (nx (hqp tb hJ [0,1002] [_,.int (k+1:Nat),_] [1] U2 rfl ⟨Z7,trivial⟩ ?_))
   exact lpE (k+1) [0,1] ⟨oz,ZK f1_2 (by simpa using hb2)⟩
 ·
  try simp at hb1
  refine Zs (nx (qs tb hJ [1000] [_] [_] ?_))
  exact tRn 0 (hE:=eB (by first | (rw[QI hb1 (by simpa using hb2)]) | (rw[Zqs fun j hj=>f1_2 j oz])))
theorem Zqd (l:List BA) (hs:ZaV l≤1000000000):Fn prog J 70 [.rd (Zf l)] (.str (Zbk l ⟨#[]⟩)):=by
 refine fE Tryz.func70 fun S w0 hS hJ0=>?_
 clear hJ0
 refine ln 0 fun hl1=>?_
 refine qs tb hJ [0] [_] [_] ?_
 refine qs tb hJ [0,1000] [_] U2 ?_
 refine Ze (qs tb hJ [0,1,1000] [_] U3 ?_)
 refine Zc (lp (ι:=Nat×BA) (fun(k,u)=>(k≤l.length)∧(u=Zwf (l.take k))) (fun(k,u)=>[(4,.int (k:Nat)),(3,.str u)]) (fun(k,_)=>l.length-k) [0,2,1] [_] (0,⟨#[]⟩) ⟨nzl,rfl⟩ ?_)
 rintro⟨k,u⟩ ⟨f1_1,f1_2⟩
 refine Ze (hqs tb hJ [0,1,2,1003] [_,_,.int (l.length:Nat),_] [2] U4 rfl ⟨Z3 Zm,trivial⟩ ?_)
 refine cj 3 (fun hb1=>?_) fun hb1=>?_
 ·
  try simp at hb1
  refine Zb (nx (Ze (Zc (hqp tb hJ [0,1,1006] (V3 [.ptr [lS (ge l k)],_,.str (u++(ge l k)),_]) [3,5] U3 rfl ⟨iIx Zd,fun _ _ _ hx hl _=>r_addS rfl (hl.D 0 11 rfl rfl) (hl.D 4 15 rfl rfl) (by have h9:=Zli (l.take (k+1));rw[Zlh hb1,ByteArray.size_append]at h9;have h8:=Znq l (k+1);rw[f1_2];omega) hx,trivial⟩ ?_))))
  refine nx (hqp tb hJ [0,2,1002] [_,.int (k+1:Nat),_] [1] U3 rfl ⟨Z7,trivial⟩ ?_)
  exact lpE (k+1,(u++(ge l k))) [0,2,1] ⟨oz,by rw[Zlh hb1,f1_2]⟩
 ·
  try simp at hb1
  refine Zs (nx (qs tb hJ [1001] U2 [_] ?_))
  exact tRn 0 (hE:=eS (by rw[f1_2,ZD oz,Zlj]))
theorem ZiM (s:BA) (hs:s.size≤1000000000):FnM (ι:= {q:List Lt×Bool // q.2= !(lettersD s.data.toList 0 false).2∧((lettersD s.data.toList 0 false).2=false→q.1=(lettersD s.data.toList 0 false).1)}) prog J 69 [] [.str s] [] (fun i'=>.tup [.rd (ZhC (i'.1.1)),.bool (i'.1.2)]) (fun _=>[]):=by
 refine fEM Tryz.func69 fun S w0 R hS hJ0 hH=>?_
 refine Yq (B:=So J S w0 75 (R) [(0,.str s)]) ?_ fun a w h=>h
 refine qso tb hJ [0] U2 [_] ?_
 refine tsq (XF XE hJ rfl rfl rfl (lb rfl) fun v1=>?_)
 refine snK 1 tb rfl (seK [0,2] U2 rfl ?_)
 refine nx (qso tb hJ [0,1,1000] [_] U3 ?_)
 refine qso tb hJ [0,1,2,1000] [_] U4 ?_
 refine qso tb hJ [0,1,2,3,1000] [_] U5 ?_
 refine Ze (qso tb hJ (r5 [1000]) [_] U6 ?_)
 refine Zc (lpo (ι:=Nat×Int×Bool×Bool×(List Lt)×Value) (fun(p,m,ins,fr,us,_)=>(p≤s.size)∧(0≤m∧m≤1000000)∧(ZtG s.data.toList p us m ins fr)∧(us.length≤p)) (fun(_,_,_,_,us,v)=>(OB.row v 121 2 (us.map ltC)::R)) (fun(p,m,ins,fr,_,v)=>[(8,.int (p:Nat)),(5,.int m),(6,.bool ins),(7,.bool fr),(4,.lit v)]) (fun(p,_,_,_,_,_)=>s.size-p) [1,5,2,3,4,0] [_] (0,0,false,false,([]:List Lt),v1) ⟨nzl,⟨oz,oz⟩,Zmo,nzl⟩ ?_)
 rintro⟨p,m,ins,fr,us,v⟩ ⟨f1_1,f1_2,f1_3,f1_4⟩
 refine Ze (ZG tb hJ (r6 [1003]) [_,_,.int (s.size:Nat),_] [2] U7 rfl ⟨Zmp ZU,trivial⟩ ?_)
 refine cj 6 (fun hb1=>?_) fun hb1=>?_
 ·
  try simp at hb1
  have e1:p<s.data.toList.length:=hb1
  refine Zb (nx (Ze (Zc (ZG tb hJ (r6 [1003]) [_,_,.rd (.lit (.int .u8 ((ge s.data.toList p).toNat:Int))),_] [2] U7 rfl ⟨fun _ _ _ hx hl _=>ZdV (i:=(p:Int)) ZU rfl (hl.D 0 17 rfl rfl) (hl.D 1 18 rfl rfl) nnn (ZaJ (s:=s) (k:=p) sfz) hx,trivial⟩ ?_))))
  refine qso tb hJ (r7 [1005]) U6 U8 ?_
  refine cj 7 (fun hb2=>?_) fun hb2=>?_
  ·
   try simp at hb2
   have e2:65≤(ge s.data.toList p).toNat∧(ge s.data.toList p).toNat≤84:=by omega
   refine ZG tb hJ [0,1,5,1007] [_,.int ((20:Int)*m),_,.rd (.lit (.int .u8 (((ge s.data.toList p).toNat:Int)-(65:Int)))),.int (((ge s.data.toList p).toNat:Int)-(65:Int)),.int ((20:Int)*m+(((ge s.data.toList p).toNat:Int)-(65:Int))),.int ((20:Int)*m+(((ge s.data.toList p).toNat:Int)-(65:Int))+(1:Int)),_] [1,3,4,5,6] U4 rfl ⟨fun _ _ _ hx hl _=>Zrf (i:=(20:Int)) (j:=m) rfl (Rel.of_lit (.int .i64 20)) (hl.D 0 26 rfl rfl) sfz sfz hx,fun _ _ _ hx hl _=>ZkA (i:=((ge s.data.toList p).toNat:Int)) (j:=(65:Int)) rfl (hl.D 2 28 rfl rfl) (Rel.of_lit (.int .u8 65)) sfz sfz hx,fun _ _ _ hx hl _=>Zej (i:=((ge s.data.toList p).toNat:Int)-(65:Int)) ZaU XT rfl (hl.D 3 29 rfl rfl) sfz sfz hx,Z7,Z7,trivial⟩ ?_
   refine Ze (qso tb hJ [0,1,2,3,1001] U2 U5 ?_)
   refine cj 4 (fun hb3=>?_) fun hb3=>?_
   ·
    try simp at hb3
    have e7:=Zr6 f1_3 e1 e2 oz
    refine qso tb hJ [1000,1001] U2 U2 ?_
    refine tw (fun h=>Yb h (m:=0) (s:=2) rfl) (tw ZM ?_)
    exact ZA (fun a w h=>ZbM  (m:=0) (k:=1) ⟨(([]:List Lt),false),by first | exact⟨by rw[e7];rfl,fun h=>by rw[e7]at h;cases h⟩ | exact⟨by rw[e7],fun _=>by rw[e7]⟩⟩ rfl h rfl rfl (ZtK rfl rfl))
   ·
    try simp at hb3
    have e5:=invR_A f1_3 e1 e2 oz
    refine Zb (nx (tsq (snK 2 tb rfl (sq (.agg (ltC (⟨(20:Int)*m+(((ge s.data.toList p).toNat:Int)-(65:Int))+(1:Int),false⟩:Lt))) rfl rfl (lb rfl) (fun a _ h=>Yh (ps:=[(0,a.eval (.tmp 36))]) (us:=[a.eval (.tmp 36),.bool false]) Zgp rfl yz (Zcx (lb rfl) (Rel.oneC (h.get 0 rfl)) ZcJ) rfl (Zi (h.get 0 rfl) (Ys (.lit _ True.intro) ZJ)) h.x) ?_))))
    refine sy (.rd (ZhC ([(⟨(20:Int)*m+(((ge s.data.toList p).toNat:Int)-(65:Int))+(1:Int),false⟩:Lt)]))) (fun h=>Xw XE Zka dz rfl rfl (h.get 0 rfl) (Zq hS _ h.keep h.x _ nlr) (jo hJ h.x)) ?_
    refine ZS (f:=ltC) (m:=3) (s:=35) us ([(⟨(20:Int)*m+(((ge s.data.toList p).toNat:Int)-(65:Int))+(1:Int),false⟩:Lt)]) (fun _=>rfl) ZfA hJ hJ0 rfl rfl rfl (lb rfl) rfl rfl (fun a w h=>(h.get 0 rfl)) sfz sfz fun v2=>?_
    refine snK 1 tb rfl (seK [0,2,6,7] U4 rfl ?_)
    refine nx (ln 1 fun hl1=>?_)
    refine qpo tb hJ [0,2,3,1000,1001,1002] U3 U6 ?_
    refine nx (Yo tb hJ [0,1,3,4,5,1002] [_,.int (p+1:Nat),_] [1] U6 rfl ⟨Z7,trivial⟩ ?_)
    exact YE (p+1,0,false,true,us++([(⟨(20:Int)*m+(((ge s.data.toList p).toNat:Int)-(65:Int))+(1:Int),false⟩:Lt)]),v2) [1,5,2,3,4,0] ⟨oz,⟨oz,oz⟩,e5,by first | (simp;omega) | omega⟩
  ·
   try simp at hb2
   have e2:¬ (65≤(ge s.data.toList p).toNat∧(ge s.data.toList p).toNat≤84):=by omega
   refine qso tb hJ (r7 [1005]) U6 U8 ?_
   refine cj 7 (fun hb4=>?_) fun hb4=>?_
   ·
    try simp at hb4
    have e4:85≤(ge s.data.toList p).toNat∧(ge s.data.toList p).toNat≤89:=by omega
    refine ZG tb hJ [0,1,5,1007] [_,.int ((5:Int)*m),_,.rd (.lit (.int .u8 (((ge s.data.toList p).toNat:Int)-(85:Int)))),.int (((ge s.data.toList p).toNat:Int)-(85:Int)),.int ((5:Int)*m+(((ge s.data.toList p).toNat:Int)-(85:Int))),.int ((5:Int)*m+(((ge s.data.toList p).toNat:Int)-(85:Int))+(1:Int)),_] [1,3,4,5,6] U4 rfl ⟨fun _ _ _ hx hl _=>Zrf (i:=(5:Int)) (j:=m) rfl (Rel.of_lit (.int .i64 5)) (hl.D 0 46 rfl rfl) sfz sfz hx,fun _ _ _ hx hl _=>ZkA (i:=((ge s.data.toList p).toNat:Int)) (j:=(85:Int)) rfl (hl.D 2 48 rfl rfl) (Rel.of_lit (.int .u8 85)) sfz sfz hx,fun _ _ _ hx hl _=>Zej (i:=((ge s.data.toList p).toNat:Int)-(85:Int)) ZaU XT rfl (hl.D 3 49 rfl rfl) sfz sfz hx,Z7,Z7,trivial⟩ ?_
    refine Ze (qso tb hJ [0,1,2,3,1001] U2 U5 ?_)
    refine cj 4 (fun hb5=>?_) fun hb5=>?_
    ·
     try simp at hb5
     have e7:=Zo7 f1_3 e1 e4 oz
     refine qso tb hJ [1000,1001] U2 U2 ?_
     refine tw (fun h=>Yb h (m:=0) (s:=2) rfl) (tw ZM ?_)
     exact ZA (fun a w h=>ZbM  (m:=0) (k:=1) ⟨(([]:List Lt),false),by first | exact⟨by rw[e7];rfl,fun h=>by rw[e7]at h;cases h⟩ | exact⟨by rw[e7],fun _=>by rw[e7]⟩⟩ rfl h rfl rfl (ZtK rfl rfl))
    ·
     try simp at hb5
     have e5:=invR_U f1_3 e1 e4 oz
     refine Zb (nx (qpo tb hJ [0,1,2,3,1000,1001] U2 U6 ?_))
     refine nx (Yo tb hJ [0,2,3,4,5,1002] [_,.int (p+1:Nat),_] [1] U6 rfl ⟨Z7,trivial⟩ ?_)
     exact YE (p+1,(5:Int)*m+(((ge s.data.toList p).toNat:Int)-(85:Int))+(1:Int),true,false,us,v) [0,5,2,3,4,1] ⟨oz,⟨oz,oz⟩,e5,by first | (simp;omega) | omega⟩
   ·
    try simp at hb4
    have e4:¬ (85≤(ge s.data.toList p).toNat∧(ge s.data.toList p).toNat≤89):=by omega
    refine qso tb hJ (r7 [1001]) U2 U8 ?_
    refine cj 7 (fun hb6=>?_) fun hb6=>?_
    ·
     try simp at hb6
     have e6:(ge s.data.toList p).toNat=90:=by omega
     refine Ze (qso tb hJ [0,1,2,3,5,1001] U2 U6 ?_)
     refine cj 5 (fun hb7=>?_) fun hb7=>?_
     ·
      try simp at hb7
      have e7:=Zo6 f1_3 e1 e6 hb7
      refine qso tb hJ [1000,1001] U2 U2 ?_
      refine tw (fun h=>Yb h (m:=0) (s:=2) rfl) (tw ZM ?_)
      exact ZA (fun a w h=>ZbM  (m:=0) (k:=1) ⟨(([]:List Lt),false),by first | exact⟨by rw[e7];rfl,fun h=>by rw[e7]at h;cases h⟩ | exact⟨by rw[e7],fun _=>by rw[e7]⟩⟩ rfl h rfl rfl (ZtK rfl rfl))
     ·
      try simp at hb7
      obtain⟨e50,e5⟩:=invR_Z f1_3 e1 e6 (by simpa using hb7)
      refine Zb (nx (tsq (snK 2 tb rfl (sy (.int (us.length:Nat)) (fun h=>Zb2 (by rw[List.length_map]) Zbz rfl (Zh h.x (mo 0 rfl)) (h.get 0 rfl) h.x) ?_))))
      refine sy (.int (us.length-1:Nat)) (fun h=>ZnX (i:=us.length) (j:=1) rfl (h.get 0 rfl) (Rel.of_lit (.int .i64 1)) sfz sfz h.x) ?_
      refine sy (.lit (Y8 v ((us.length-1)*2))) (fun h=>YP (i:=((us.length-1:Nat):Int)) XE rfl (Zh h.x (mo 0 rfl)) (h.get 3 rfl) (h.get 0 rfl) nnn (by rw[List.length_map];exact Int.ofNat_lt.2 sfz) h.x) ?_
      refine sy (.lit (Y8 v ((us.length-1)*2+1))) (fun h=>ZdC ZjJ rfl (Zh h.x (mo 0 rfl)) (by rw[List.length_map];exact Nat.lt_of_le_of_lt nzl sfz) (h.get 0 rfl) h.x) ?_
      refine ZlT (i:=us.length-1) (j:=1) (c:=lB true) hJ hJ0 ZaC rfl rfl rfl (Qq (xs:=us) (k:=us.length-1) sfz) (lb rfl) (fun a w h=>⟨(h.get 0 rfl),(Rel.of_lit (.bool true))⟩) ?_
      rw[show(us.map ltC).set (us.length-1) ((ltC (ge us (us.length-1))).set 1 (lB true))=(us.set (us.length-1) (⟨(ge us (us.length-1)).number,true⟩:Lt)).map ltC from by rw[List.map_set];rfl]
      refine seK [6,7,8,9,10] U5 rfl (nx (qpo tb hJ (r5 [1000]) [_] U6 ?_))
      refine nx (Yo tb hJ [0,2,3,4,5,1002] [_,.int (p+1:Nat),_] [1] U6 rfl ⟨Z7,trivial⟩ ?_)
      exact YE (p+1,m,ins,false,us.set (us.length-1) (⟨(ge us (us.length-1)).number,true⟩:Lt),v) [0,5,1,2,4,3] ⟨oz,⟨oz,oz⟩,e5,by first | (simp;omega) | omega⟩
    ·
     try simp at hb6
     have e6:¬ (ge s.data.toList p).toNat=90:=by omega
     refine qso tb hJ [0,1,2,3,5,1001] U2 U6 ?_
     refine cj 5 (fun hb8=>?_) fun hb8=>?_
     ·
      try simp at hb8
      have e8:(ge s.data.toList p).toNat=63:=by omega
      refine Ze (qso tb hJ (r5 [1000]) [_] U6 ?_)
      refine cj 5 (fun hb9=>?_) fun hb9=>?_
      ·
       try simp at hb9
       have e7:=Zk0 f1_3 e1 e2 e4 e6 (fun e=>by simp_all)
       refine qso tb hJ [1000,1001] U2 U2 ?_
       refine tw (fun h=>Yb h (m:=0) (s:=2) rfl) (tw ZM ?_)
       exact ZA (fun a w h=>ZbM  (m:=0) (k:=1) ⟨(([]:List Lt),false),by first | exact⟨by rw[e7];rfl,fun h=>by rw[e7]at h;cases h⟩ | exact⟨by rw[e7],fun _=>by rw[e7]⟩⟩ rfl h rfl rfl (ZtK rfl rfl))
      ·
       try simp at hb9
       have e5:=invR_Q f1_3 e1 e8 (by simpa using hb9)
       refine Zb (nx (tsq (snK 1 tb rfl (sy (.agg (ltC (⟨0,false⟩:Lt))) (fun h=>Yh (ps:=[]) (us:=[.int .i64 0,.bool false]) Zgp rfl yz ZcJ rfl (Ys (.lit _ True.intro) (Ys (.lit _ True.intro) ZJ)) h.x) ?_))))
       refine sy (.rd (ZhC ([(⟨0,false⟩:Lt)]))) (fun h=>Xw XE Zka dz rfl rfl (h.get 0 rfl) (Zq hS _ h.keep h.x _ nlr) (jo hJ h.x)) ?_
       refine ZS (f:=ltC) (m:=2) (s:=68) us ([(⟨0,false⟩:Lt)]) (fun _=>rfl) ZfA hJ hJ0 rfl rfl rfl (lb rfl) rfl rfl (fun a w h=>(h.get 0 rfl)) sfz sfz fun v3=>?_
       refine snK 1 tb rfl (seK [0,2,5,6,7,8] U6 rfl ?_)
       refine nx (ln 1 fun hl2=>?_)
       refine qpo tb hJ [0,2,3,4,5,1000] [_] U6 ?_
       refine nx (Yo tb hJ [0,1,3,4,5,1002] [_,.int (p+1:Nat),_] [1] U6 rfl ⟨Z7,trivial⟩ ?_)
       exact YE (p+1,m,ins,false,us++([(⟨0,false⟩:Lt)]),v3) [1,5,2,3,4,0] ⟨oz,⟨oz,oz⟩,e5,by first | (simp;omega) | omega⟩
     ·
      try simp at hb8
      have e7:=Zk0 f1_3 e1 e2 e4 e6 (fun e=>by omega)
      refine qso tb hJ [1000,1001] U2 U2 ?_
      refine tw (fun h=>Yb h (m:=0) (s:=2) rfl) (tw ZM ?_)
      exact ZA (fun a w h=>ZbM  (m:=0) (k:=1) ⟨(([]:List Lt),false),by first | exact⟨by rw[e7];rfl,fun h=>by rw[e7]at h;cases h⟩ | exact⟨by rw[e7],fun _=>by rw[e7]⟩⟩ rfl h rfl rfl (ZtK rfl rfl))
 ·
  try simp at hb1
  have e1:¬ p<s.data.toList.length:=by have h9:s.size=s.data.toList.length:=rfl;omega
  have e7:=Zr5 f1_3 e1
  refine Zs (nx (qso tb hJ [1003,1004] U5 U2 ?_))
  exact tw (fun h=>ZO hS h (m:=0) (s:=2) rfl) (ZA (fun a w h=>ZbM  (m:=0) (k:=1) ⟨(us,!ins),by first | exact⟨by rw[e7];rfl,fun h=>by rw[e7]at h;cases h⟩ | exact⟨by rw[e7],fun _=>by rw[e7]⟩⟩ rfl h rfl rfl (ZtK rfl rfl)))
theorem Zqi (t:List BA) (hn:t.length≤100000) (hs:ZaV t≤1000000000):Fn prog J 67 [.rd (Zf t)] (.tup [.rd (Zf ((QX t).1)),.rd (ZhC ((QX t).2.1)),.int ((QX t).2.2)]):=by
 refine fE Tryz.func67 fun S w0 hS hJ0=>?_
 refine tw ZR (ln 0 fun hl1=>?_)
 refine qso tb hJ [0] U3 [_] ?_
 refine Ze (ZG tb hJ [0,1002] [_,.bool (Q0 t),_] [1] U2 rfl ⟨iFo hS hJ (Zd5 hJ t) ZpU,trivial⟩ ?_)
 refine cj 1 (fun hb1=>?_) fun hb1=>?_
 ·
  try simp at hb1
  have e7:=le_2 (t:=t) (by simpa using hb1)
  refine qso tb hJ [1000,1001,1002] U3 U3 ?_
  refine tw (fun h=>Yb h (m:=0) (s:=2) rfl) (tw (fun h=>Yb h (m:=1) (s:=3) rfl) ?_)
  exact ZA (fun a w h=>Zao (m:=1) (k:=0) (l:=2) rfl (ZW h) rfl rfl rfl (congrArg (fun z=>AV.rd (Zf z)) (show([]:List BA)=((QX t).1)from by first | (rw[e7];done) | (rw[e7];rfl) | (rw[e7];exact e6))) (congrArg (fun z=>AV.rd (ZhC z)) (show([]:List Lt)=((QX t).2.1)from by first | (rw[e7];done) | (rw[e7];rfl) | (rw[e7];exact e6))) (eI (by first | (rw[e7];done) | (rw[e7];rfl) | (rw[e7];exact e6))))
 ·
  try simp at hb1
  have h0:Q0 t=true:=by simpa using hb1
  refine Zb (nx (ZG tb hJ [0,1002] [_,.int (Yn (isV (⟨#[41]⟩:BA)) t),_] [1] U2 rfl ⟨iFo hS hJ (Zhq hJ t (⟨#[41]⟩:BA)) Zhl,trivial⟩ ?_))
  refine Ze (ZG tb hJ [0,1,1014] (V5 [.rd (Zf ((t.take ((Yn (isV (⟨#[41]⟩:BA)) t).toNat)).drop 1)),.bool (((t.take ((Yn (isV (⟨#[41]⟩:BA)) t).toNat)).drop 1).all QK),_,_,_,_,_,.rd (Zf ((t.take ((Yn (isV (⟨#[41]⟩:BA)) t).toNat)).drop 1)),.bool (QD ((t.take ((Yn (isV (⟨#[41]⟩:BA)) t).toNat)).drop 1)),_]) [5,6,12,13] U3 rfl ⟨fun _ _ _ hx hl hc=>Yy (ys:=(t.take ((Yn (isV (⟨#[41]⟩:BA)) t).toNat)).drop 1) (lo:=1) (hi:=(Yn (isV (⟨#[41]⟩:BA)) t).toNat) rfl Zd (fun _=>rfl) rfl (hl.D 3 16 rfl hc) (Rel.of_lit (.int .i64 1)) (ZnP (by have hc':((decide (Yn (isV (⟨#[41]⟩:BA)) t< (0:Int)))==false)=true:=hc;(try simp at hc');(first | omega | (have h9:=hc'.1;omega))) (hl.D 4 17 rfl hc)) (by have hc':((decide (Yn (isV (⟨#[41]⟩:BA)) t< (0:Int)))==false)=true:=hc;(try simp at hc');(have h8:=Ze7 h0 (show ¬ Yn (isV ⟨#[41]⟩) t<0 from by first | omega | (have h9:=hc'.1;omega));omega)) (by have hc':((decide (Yn (isV (⟨#[41]⟩:BA)) t< (0:Int)))==false)=true:=hc;(try simp at hc');(have h8:=Ze7 h0 (show ¬ Yn (isV ⟨#[41]⟩) t<0 from by first | omega | (have h9:=hc'.1;omega));omega)) hx,iFo hS hJ (Ztq hJ ((t.take ((Yn (isV (⟨#[41]⟩:BA)) t).toNat)).drop 1)) Ztf,fun _ _ _ hx hl hc=>Yy (ys:=(t.take ((Yn (isV (⟨#[41]⟩:BA)) t).toNat)).drop 1) (lo:=1) (hi:=(Yn (isV (⟨#[41]⟩:BA)) t).toNat) rfl Zd (fun _=>rfl) rfl (hl.D 10 23 rfl hc) (Rel.of_lit (.int .i64 1)) (ZnP (by have hc':(((decide (Yn (isV (⟨#[41]⟩:BA)) t< (0:Int)))|| (!(((t.take ((Yn (isV (⟨#[41]⟩:BA)) t).toNat)).drop 1).all QK)))==false)=true:=hc;(try simp at hc');(first | omega | (have h9:=hc'.1;omega))) (hl.D 11 24 rfl hc)) (by have hc':(((decide (Yn (isV (⟨#[41]⟩:BA)) t< (0:Int)))|| (!(((t.take ((Yn (isV (⟨#[41]⟩:BA)) t).toNat)).drop 1).all QK)))==false)=true:=hc;(try simp at hc');(have h8:=Ze7 h0 (show ¬ Yn (isV ⟨#[41]⟩) t<0 from by first | omega | (have h9:=hc'.1;omega));omega)) (by have hc':(((decide (Yn (isV (⟨#[41]⟩:BA)) t< (0:Int)))|| (!(((t.take ((Yn (isV (⟨#[41]⟩:BA)) t).toNat)).drop 1).all QK)))==false)=true:=hc;(try simp at hc');(have h8:=Ze7 h0 (show ¬ Yn (isV ⟨#[41]⟩) t<0 from by first | omega | (have h9:=hc'.1;omega));omega)) hx,iFo hS hJ (ZwU hJ ((t.take ((Yn (isV (⟨#[41]⟩:BA)) t).toNat)).drop 1)) Zte,trivial⟩ ?_)
  refine cj 2 (fun hb2=>?_) fun hb2=>?_
  ·
   have e7:=ZvK h0 hb2
   refine qso tb hJ [1000,1001,1002] U3 U3 ?_
   refine tw (fun h=>Yb h (m:=0) (s:=2) rfl) (tw (fun h=>Yb h (m:=1) (s:=3) rfl) ?_)
   exact ZA (fun a w h=>Zao (m:=1) (k:=0) (l:=2) rfl (ZW h) rfl rfl rfl (congrArg (fun z=>AV.rd (Zf z)) (show([]:List BA)=((QX t).1)from by first | (rw[e7];done) | (rw[e7];rfl) | (rw[e7];exact e6))) (congrArg (fun z=>AV.rd (ZhC z)) (show([]:List Lt)=((QX t).2.1)from by first | (rw[e7];done) | (rw[e7];rfl) | (rw[e7];exact e6))) (eI (by first | (rw[e7];done) | (rw[e7];rfl) | (rw[e7];exact e6))))
  ·
   obtain⟨e1,e3,e8⟩:=ZrU hb2
   have e2:=Ze7 h0 e1
   refine Zb (nx (tw (sa 1 rfl (congrArg AV.int (show Yn (isV (⟨#[41]⟩:BA)) t=(((Yn (isV ⟨#[41]⟩) t).toNat:Nat):Int)from by omega))) (tsq ?_)))
   refine snK 2 tb rfl (sy (.int ((Yn (isV ⟨#[41]⟩) t).toNat+1:Nat)) (fun h=>ZeR (i:=(((Yn (isV ⟨#[41]⟩) t).toNat:Nat):Int)) (j:=(1:Int)) rfl (h.get 0 rfl) (Rel.of_lit (.int .i64 1)) sfz sfz h.x) ?_)
   refine sy (.rd (Zf (t.drop ((Yn (isV ⟨#[41]⟩) t).toNat+1)))) (fun h=>Yy (ys:=t.drop ((Yn (isV ⟨#[41]⟩) t).toNat+1)) (lo:=(Yn (isV ⟨#[41]⟩) t).toNat+1) (hi:=t.length) (by rw[List.take_length]) Zd (fun _=>rfl) rfl (h.get 2 rfl) (h.get 0 rfl) rfl sfz sfz h.x) ?_
   refine sy (.str (Zbk (t.drop ((Yn (isV ⟨#[41]⟩) t).toNat+1)) ⟨#[]⟩)) (fun h=>ZaY (Zqd hJ (t.drop ((Yn (isV ⟨#[41]⟩) t).toNat+1)) (by exact Nat.le_trans (ZcU _ _) hs)) ZpS rfl (Zq hS _ h.keep h.x) (h.x.1) (Za (h.get 0 rfl) Zg) (jo hJ h.x)) ?_
   refine Xv (O:=[]) (R:=[]) (ZiM hJ (Zbk (t.drop ((Yn (isV ⟨#[41]⟩) t).toNat+1)) ⟨#[]⟩) (by exact Nat.le_trans (Zfx _ _) hs)) ZpT rfl rfl rfl (lb rfl) hS hJ0 Zv (fun a w h=>(Za (h.get 0 rfl) Zg)) fun z1=>?_
   refine snK 5 tb rfl (seK [0,1,3,7,11,12] U6 rfl ?_)
   refine nx (ln 1 fun hl2=>?_)
   refine ln 3 fun hl3=>?_
   refine Ze (qso tb hJ [1,4,5,1001] U2 U4 ?_)
   refine cj 3 (fun hb3=>?_) fun hb3=>?_
   ·
    try simp at hb3
    have e4:(Zj (Yd t)).2=true:=by have h9:z1.1.2= !(Zj (Yd t)).2:=z1.2.1;rw[show z1.1.2=false from by simpa using hb3]at h9;simpa using h9.symm
    have e7:=le_21 h0 e3 e8 e4
    refine qso tb hJ [1000,1001,1002] U3 U3 ?_
    refine tw (fun h=>Yb h (m:=0) (s:=2) rfl) (tw (fun h=>Yb h (m:=1) (s:=3) rfl) ?_)
    exact ZA (fun a w h=>Zao (m:=1) (k:=0) (l:=2) rfl (ZW h) rfl rfl rfl (congrArg (fun z=>AV.rd (Zf z)) (show([]:List BA)=((QX t).1)from by first | (rw[e7];done) | (rw[e7];rfl) | (rw[e7];exact e6))) (congrArg (fun z=>AV.rd (ZhC z)) (show([]:List Lt)=((QX t).2.1)from by first | (rw[e7];done) | (rw[e7];rfl) | (rw[e7];exact e6))) (eI (by first | (rw[e7];done) | (rw[e7];rfl) | (rw[e7];exact e6))))
   ·
    try simp at hb3
    have e5:(Zj (Yd t)).2=false:=by have h9:z1.1.2= !(Zj (Yd t)).2:=z1.2.1;rw[show z1.1.2=true from by simpa using hb3]at h9;simpa using h9.symm
    have e6:z1.1.1=(Zj (Yd t)).1:=z1.2.2 e5
    refine Zb (nx (Ze (ZG tb hJ [0,1,2,1002] [_,.int (z1.1.1.length:Nat),_] [1] U4 rfl ⟨Z3 Zbz,trivial⟩ ?_)))
    refine cj 3 (fun hb4=>?_) fun hb4=>?_
    ·
     try simp at hb4
     have e7:=le_10 h0 e3 e8 e5 (show 2000< (Zj (Yd t)).1.length from by rw[←e6];omega)
     refine qso tb hJ [1000,1001,1002] U3 U3 ?_
     refine tw (fun h=>Yb h (m:=0) (s:=2) rfl) (tw (fun h=>Yb h (m:=1) (s:=3) rfl) ?_)
     exact ZA (fun a w h=>Zao (m:=1) (k:=0) (l:=2) rfl (ZW h) rfl rfl rfl (congrArg (fun z=>AV.rd (Zf z)) (show([]:List BA)=((QX t).1)from by first | (rw[e7];done) | (rw[e7];rfl) | (rw[e7];exact e6))) (congrArg (fun z=>AV.rd (ZhC z)) (show([]:List Lt)=((QX t).2.1)from by first | (rw[e7];done) | (rw[e7];rfl) | (rw[e7];exact e6))) (eI (by first | (rw[e7];done) | (rw[e7];rfl) | (rw[e7];exact e6))))
    ·
     try simp at hb4
     have e7:=le_ok h0 e3 e8 e5 (show ¬ 2000< (Zj (Yd t)).1.length from by rw[←e6];omega)
     refine Zb (nx (Ze (ZE (XF Zd hJ rfl rfl rfl (lb rfl) fun v2=>?_))))
     refine snK 2 tb rfl (sy (.rd (Zf ((t.take ((Yn (isV ⟨#[41]⟩) t).toNat)).drop 1))) (fun h=>Yy (ys:=(t.take ((Yn (isV ⟨#[41]⟩) t).toNat)).drop 1) (lo:=1) (hi:=(Yn (isV ⟨#[41]⟩) t).toNat) rfl Zd (fun _=>rfl) rfl (h.get 1 rfl) (Rel.of_lit (.int .i64 1)) (h.get 0 rfl) sfz sfz h.x) ?_)
     refine ZS (f:=Zax) (m:=3) (s:=42) ([]:List BA) ((t.take ((Yn (isV ⟨#[41]⟩) t).toNat)).drop 1) (fun _=>rfl) Xn hJ hJ0 rfl rfl rfl (lb rfl) rfl rfl (fun a w h=>(h.get 0 rfl)) sfz sfz fun v3=>?_
     refine snK 4 tb rfl (seK [0,1,2,5] U4 rfl ?_)
     refine nx (ln 3 fun hl4=>?_)
     exact tw (fun h=>ZO hS h (m:=2) (s:=2) rfl) (ZA (fun a w h=>Zao (m:=0) (k:=2) (l:=1) rfl (ZW h) rfl rfl rfl (congrArg (fun z=>AV.rd (Zf z)) (show(([]:List BA)++((t.take ((Yn (isV ⟨#[41]⟩) t).toNat)).drop 1))=((QX t).1)from by first | (rw[e7];done) | (rw[e7];rfl) | (rw[e7];exact e6))) (congrArg (fun z=>AV.rd (ZhC z)) (show z1.1.1=((QX t).2.1)from by first | (rw[e7];done) | (rw[e7];rfl) | (rw[e7];exact e6))) (eI (by first | (rw[e7];done) | (rw[e7];rfl) | (rw[e7];exact e6)))))
end
end Go.Proofs.YtneapgbkkkjagaaGreatDoor
namespace Go.Proofs.YtneapgbkkkjagaaGreatDoor
def okT (g:Fr):Prop:=0<g.text.length∧∀ h∈g.hyps,h.floating=true→¬ ge h.text 1=ge g.text 0
theorem Zw7 {g:Fr} (hg:okT g) (sk:List (List BA)) (b:Nat):1≤(XQ (Z1 (YW g.hyps sk b g.hyps.length)) g.text).length:=by
 obtain⟨h0,h1⟩:=hg
 have h2:Ya (Z1 (YW g.hyps sk b g.hyps.length)) (ge g.text 0)=none:=by
  rw[Zc8,List.find?_eq_none.2,Option.map_none]
  intro x hx
  obtain⟨j,hj,he⟩:=List.mem_filterMap.1 hx
  have hj:j<g.hyps.length:=by simpa using hj
  unfold Zqn at he
  split at he
  · rename_i hf
    cases he
    simpa using h1 _ (Zu hj) hf
  · cases he
 have h3:=Y3 (M:=Z1 (YW g.hyps sk b g.hyps.length)) h0
 have h4:=XP (Z1 (YW g.hyps sk b g.hyps.length)) g.text 1
 rw[h3,List.length_append]at h4
 simp only[Yu,h2,List.length_singleton]at h4
 omega
def Zcl (xs:List Itm) (k:Nat):Nat:=((xs.take k).filter (·.tagged)).length
theorem ZlO {xs:List Itm} {k:Nat} (h:k<xs.length):Zcl xs (k+1)=if(ge xs k).tagged=true then Zcl xs k+1 else Zcl xs k:=by
 unfold Zcl
 rw[ZZ h,List.filter_append,List.length_append]
 by_cases h2:(ge xs k).tagged=true<;>simp[h2]
theorem ZqT (xs:List Itm) (k:Nat):Zcl xs k≤k:=by
 unfold Zcl
 have:=List.length_filter_le (·.tagged) (xs.take k)
 have:=List.length_take_le k xs
 omega
def ZvA (fs:List Fr) (xs:List Itm):Prop:=xs.length≤2000∧∀ k,k<xs.length→okI fs.length (Zcl xs k) (ge xs k)∧((ge xs k).kind=1→1≤(ge xs k).text.length∧(ge xs k).text.length≤2000)
structure ZmT (xs:List Itm) (m:Ms):Prop where
 sk:∀ t∈m.sk,1≤t.length∧t.length≤2000
 tg:∀ t∈m.tg,1≤t.length∧t.length≤2000
 skn:m.sk.length≤m.n
 tgn:m.tg.length=Zcl xs m.n
 n:m.n≤xs.length
 kn:m.kn=false→m.n<xs.length
theorem Zux {vars:List BA} {wide:List Pr} {g:Fr} {sk:List (List BA)} {b:Nat} {t:List BA} (hg:okT g) (h:ZfW vars wide g sk b= .ok t):1≤t.length∧t.length≤2000:=by
 unfold ZfW at h
 split at h
 · cases h
 split at h
 · cases h
 split at h
 · cases h
 split at h
 · cases h
 · rename_i h3 _
   injection h with h
   subst h
   simp only[ZaS,Bool.not_eq_true',decide_eq_false_iff_not,Nat.not_le,Nat.not_lt]at h3
   exact⟨Zw7 hg sk b,h3⟩
theorem Zr1 {fs:List Fr} {vars:List BA} {f:Fr} {sk tg s:List (List BA)} {x:Itm} (hfs:∀ g∈fs,okT g) (hx:okI fs.length tg.length x) (hx1:x.kind=1→1≤x.text.length∧x.text.length≤2000) (hs:∀ t∈sk,1≤t.length∧t.length≤2000) (ht:∀ t∈tg,1≤t.length∧t.length≤2000) (h:Xi fs vars f sk tg x= .ok s):∀ t∈s,1≤t.length∧t.length≤2000:=by
 unfold Xi at h
 split at h
 · rename_i hk
   injection h with h
   subst h
   intro t h2
   rcases List.mem_append.1 h2 with h2 | h2
   · exact hs t h2
   · rw[List.mem_singleton.1 h2];exact hx1 hk
 split at h
 · rename_i _ hk
   have h9:=hx.2.2.1 hk
   unfold Zdu at h
   split at h
   · cases h
   split at h
   · cases h
   · rename_i u hu
     injection h with h
     subst h
     intro t h2
     rcases List.mem_append.1 h2 with h2 | h2
     · exact hs t (List.mem_of_mem_take h2)
     · rw[List.mem_singleton.1 h2];exact Zux (hfs _ (Zu oz)) hu
 split at h
 · rename_i _ _ hk
   have h9:=hx.2.2.2 hk
   injection h with h
   subst h
   intro t h2
   rcases List.mem_append.1 h2 with h2 | h2
   · exact hs t h2
   · rw[List.mem_singleton.1 h2];exact ht _ (Zu oz)
 split at h<;>cases h
theorem Zee {fs:List Fr} {vars:List BA} {f:Fr} {xs:List Itm} {m:Ms} (hfs:∀ g∈fs,okT g) (hxs:ZvA fs xs) (h:ZmT xs m):ZmT xs (ZI fs vars f xs m):=by
 obtain⟨sk,tg,n,kn,v,did⟩:=m
 obtain⟨h1,h2,h3,h4,h5,h6⟩:=h
 simp only at h1 h2 h3 h4 h5 h6
 cases hk:kn with
 | true=>rw[ZcV rfl];exact⟨h1,h2,h3,h4,h5,fun e=>by cases e⟩
 | false=>
  have hn:=h6 hk
  obtain⟨hx,hx1⟩:=hxs.2 n hn
  rw[←h4]at hx
  cases hd:Xi fs vars f sk tg (ge xs n)with
  | error c=>rw[ZbB rfl hd];exact⟨h1,h2,h3,h4,h5,fun e=>by cases e⟩
  | ok s=>
   rw[ZbX rfl hd]
   have hs:=Zr1 hfs hx hx1 h1 h2 hd
   have hl:=Zio hd
   have hT:∀ t∈(if(ge xs n).tagged=true then tg++[ge s ((s.length:Int)-1).toNat]else tg),1≤t.length∧t.length≤2000:=by
    intro t ht
    split at ht
    · rcases List.mem_append.1 ht with ht | ht
      · exact h2 t ht
      · rw[List.mem_singleton.1 ht];exact hs _ (Zu oz)
    · exact h2 t ht
   have hN:(if(ge xs n).tagged=true then tg++[ge s ((s.length:Int)-1).toNat]else tg).length=Zcl xs (n+1):=by
    rw[ZlO hn]
    split<;>simp[h4]
   revert hT hN
   generalize (if(ge xs n).tagged=true then tg++[ge s ((s.length:Int)-1).toNat]else tg)=tg'
   intro hT hN
   unfold ZbO
   split
   · rename_i hlt
     exact⟨hs,hT,by simp only;omega,hN,by simp only;omega,fun _=>hlt⟩
   · exact⟨hs,hT,by simp only;omega,hN,by simp only;omega,fun e=>by cases e⟩
def Zg8 (M:List (BA×Int)) (N:Nat):Prop:=∀ s n,Ya M s=some n→0≤n∧n< (N:Int)
def Ziy (f:Fr):Prop:=∀ h∈f.hyps++f.dummies,1≤h.text.length∧h.text.length≤2000
def okJ (N t:Nat) (x:Itm):Prop:=okI N t x∧(x.kind=1→1≤x.text.length∧x.text.length≤2000)
theorem ZkQ {f:Fr} {M:List (BA×Int)} {N:Nat} (hM:Zg8 M N) (hf:Ziy f) (t:Nat) (s:BA):okJ N t (Yl f M s)∧(Yl f M s).tagged=false:=by
 unfold Yl
 split
 · exact⟨⟨⟨by simp,by simp,by simp,by simp⟩,by simp⟩,rfl⟩
 split
 · rename_i h hh
   have:=hf h (List.mem_of_find?_eq_some hh)
   exact⟨⟨⟨by simp,by simp,by simp,by simp⟩,fun _=>this⟩,rfl⟩
 split
 · rename_i n hn
   have:=hM s n hn
   exact⟨⟨⟨by simp,by simp,fun _=>this,by simp⟩,by simp⟩,rfl⟩
 · exact⟨⟨⟨by simp,by simp,by simp,by simp⟩,by simp⟩,rfl⟩
theorem ZvN {f:Fr} {M:List (BA×Int)} {N t:Nat} (hM:Zg8 M N) (hf:Ziy f) {labels:List BA} {l:Lt} (hl:0≤l.number) {x:Itm} (h:Q5 f M labels t l=some x):okJ N t x∧x.tagged=l.tagged:=by
 unfold Q5 at h
 split at h
 · cases h;exact⟨⟨⟨by simp,by simp,by simp,by simp⟩,by simp⟩,rfl⟩
 split at h
 · cases h
   have:=hf (ge f.hyps (l.number-1).toNat) (List.mem_append_left _ (Zu oz))
   exact⟨⟨⟨by simp,by simp,by simp,by simp⟩,fun _=>this⟩,rfl⟩
 split at h
 · cases h
   obtain⟨h1,_⟩:=ZkQ hM hf t (ge labels (l.number-1-f.hyps.length).toNat)
   exact⟨⟨⟨h1.1.1,h1.1.2.1,h1.1.2.2.1,h1.1.2.2.2⟩,h1.2⟩,rfl⟩
 split at h
 · cases h
   exact⟨⟨⟨by simp,by simp,by simp,fun _=>by simp only;omega⟩,by simp⟩,rfl⟩
 · cases h
theorem ZlP (x:Itm) (xs:List Itm) (k:Nat):Zcl (x::xs) (k+1)=(if x.tagged=true then 1 else 0)+Zcl xs k:=by
 unfold Zcl
 rw[List.take_succ_cons,List.filter_cons]
 split<;>simp[Nat.add_comm]
theorem ZkX {f:Fr} {M:List (BA×Int)} {N:Nat} (hM:Zg8 M N) (hf:Ziy f) {labels:List BA}:∀ {ls:List Lt} {t:Nat} {xs:List Itm},(∀ l∈ls,0≤l.number)→Xb f M labels ls t=some xs→∀ k,k<xs.length→okJ N (t+Zcl xs k) (ge xs k)
 | [],t,xs,_,h,k,hk=>by
  simp only[Xb,Option.some.injEq]at h
  subst h
  simp at hk
 | l::r,t,xs,hl,h,k,hk=>by
  unfold Xb at h
  split at h
  · cases h
  rename_i x hx
  split at h
  · cases h
  rename_i ys hys
  cases h
  obtain⟨h1,h2⟩:=ZvN hM hf (hl l yz) hx
  cases k with
  | zero=>exact h1
  | succ k=>
   have h3:=ZkX hM hf (fun l hl'=>hl l (by simp[hl'])) hys k (by simpa using hk)
   rw[ZvU,ZlP,h2]
   split
   · rename_i ht
     rw[if_pos ht]at h3
     rw[←Nat.add_assoc]
     exact h3
   · rename_i ht
     rw[if_neg ht]at h3
     rw[Nat.zero_add]
     exact h3
theorem QP:∀(m:Nat) (bs:List UInt8) (n:Int) (ins:Bool),bs.length≤m→0≤n→∀ l∈(lettersD bs n ins).1,0≤l.number:=by
 intro m
 induction m with
 | zero=>
  intro bs n ins hm _ l hl
  have:bs=[]:=List.length_eq_zero_iff.1 oz
  subst this
  simp[lettersD]at hl
 | succ m ih=>
  intro bs n ins hm hn l hl
  cases bs with
  | nil=>simp[lettersD]at hl
  | cons b r=>
   simp only[List.length_cons]at hm
   rw[ZaG]at hl
   split at hl
   · split at hl
     · simp at hl
     · rename_i hb _
       simp only[Bool.and_eq_true,decide_eq_true_eq]at hb
       exact ih r _ _ oz oz l hl
   split at hl
   · rename_i hb
     simp only[Bool.and_eq_true,decide_eq_true_eq]at hb
     split at hl
     · simp at hl
     · split at hl
       · simp only[List.mem_singleton]at hl
         subst hl
         simp only
         omega
       · rename_i c r'
         simp only[List.length_cons]at hm
         split at hl
         · rcases List.mem_cons.1 hl with rfl | hl
           · simp only;omega
           · exact ih r' _ _ oz oz l hl
         · rcases List.mem_cons.1 hl with rfl | hl
           · simp only;omega
           · exact ih (c::r') _ _ (by simp only[List.length_cons];omega) oz l hl
   split at hl
   · rcases List.mem_cons.1 hl with rfl | hl
     · simp
     · exact ih r _ _ oz hn l hl
   · simp at hl
theorem ZuX {fs:List Fr} {f:Fr} {M:List (BA×Int)} {proof:List BA} {xs:List Itm} (hM:Zg8 M fs.length) (hf:Ziy f) (h:YY f M proof= .ok xs):ZvA fs xs:=by
 unfold YY at h
 split at h
 · split at h
   · cases h
   · rename_i hl
     injection h with h
     subst h
     refine⟨by simp;omega,fun k hk=>?_⟩
     have hk':k<proof.length:=by simpa using hk
     have he:ge (proof.map (Yl f M)) k=Yl f M (ge proof k):=by rw[Xj hk,Xj hk',List.getElem_map]
     rw[he]
     exact(ZkQ hM hf _ _).1
 split at h
 · cases h
 rename_i labels text _
 split at h
 · cases h
 split at h
 · cases h
 rename_i ys hys
 split at h
 · cases h
 split at h
 · cases h
 · rename_i hl
   injection h with h
   subst h
   refine⟨oz,fun k hk=>?_⟩
   have:=ZkX hM hf (QP _ _ 0 false nlr (Int.le_refl _)) hys k hk
   rw[Nat.zero_add]at this
   exact this
theorem Zns {fs:List Fr} {f:Fr} {r:Except Int (List Itm)} (h:∀ xs,r= .ok xs→ZvA fs xs):ZvA fs (QE f r).1∧ZmT (QE f r).1 (QE f r).2:=by
 cases r with
 | error c=>exact⟨⟨by simp[QE],fun k hk=>by simp[QE]at hk⟩,⟨by simp[QE],by simp[QE],by simp[QE],by simp[QE,Zcl],by simp[QE],by simp[QE]⟩⟩
 | ok xs=>
  refine⟨h xs rfl,?_⟩
  unfold QE ZbO
  simp only
  split
  · rename_i hlt
    exact⟨by simp,by simp,by simp,by simp[Zcl],by simp,fun _=>hlt⟩
  · exact⟨by simp,by simp,by simp,by simp[Zcl],by simp,fun e=>by cases e⟩
section
variable {fs:List Fr} {vars:List BA} {f:Fr} {xs:List Itm} {m:Ms}
theorem ZtP (h:m.kn=true):(ZI fs vars f xs m).v=m.v∧(ZI fs vars f xs m).kn=true:=by
 obtain⟨sk,tg,n,kn,v,did⟩:=m
 simp only at h
 subst h
 rw[ZcV rfl]
 exact⟨rfl,rfl⟩
theorem ZtT:∀(j:Nat) (m:Ms),m.kn=true→(ZaM fs vars f xs j m).v=m.v
 | 0,_,_=>rfl
 | j+1,m,h=>by
  show(ZaM fs vars f xs j (ZI fs vars f xs m)).v=m.v
  rw[ZtT j _ (ZtP h).2,(ZtP h).1]
theorem Zdy (h:ZmT xs m):((ZI fs vars f xs m).did=false∧(ZI fs vars f xs m).kn=true∧(m.kn=true→(ZI fs vars f xs m).v=m.v))∨((ZI fs vars f xs m).did=true∧(ZI fs vars f xs m).n=m.n+1∧m.n<xs.length∧m.kn=false):=by
 obtain⟨sk,tg,n,kn,v,did⟩:=m
 cases hk:kn with
 | true=>rw[ZcV rfl];exact .inl ⟨rfl,rfl,fun _=>rfl⟩
 | false=>
  have hn:=h.kn hk
  simp only at hn
  cases hd:Xi fs vars f sk tg (ge xs n)with
  | error c=>rw[ZbB rfl hd];exact .inl ⟨rfl,rfl,fun e=>by cases e⟩
  | ok s=>
   rw[ZbX rfl hd]
   generalize (if(ge xs n).tagged=true then tg++[ge s ((s.length:Int)-1).toNat]else tg)=tg'
   unfold ZbO
   split
   · exact .inr ⟨rfl,rfl,hn,rfl⟩
   · exact .inr ⟨rfl,rfl,hn,rfl⟩
theorem ZqZ (h:ZmT xs m) (hd:(ZI fs vars f xs m).did=false):(ZaM fs vars f xs (xs.length+1-m.n) m).v=(ZI fs vars f xs m).v:=by
 have hn:=h.n
 obtain⟨j,hj⟩:∃ j,xs.length+1-m.n=j+1:=⟨xs.length-m.n,oz⟩
 rw[hj]
 show(ZaM fs vars f xs j (ZI fs vars f xs m)).v=_
 rcases Zdy (fs:=fs) (vars:=vars) (f:=f) h with h2 | h2
 · exact ZtT j _ h2.2.1
 · rw[h2.1]at hd;cases hd
theorem ZqY (h:ZmT xs m) (hd:(ZI fs vars f xs m).did=true):(ZaM fs vars f xs (xs.length+1-m.n) m).v=(ZaM fs vars f xs (xs.length+1-(ZI fs vars f xs m).n) (ZI fs vars f xs m)).v∧(ZI fs vars f xs m).n=m.n+1∧m.n<xs.length:=by
 rcases Zdy (fs:=fs) (vars:=vars) (f:=f) h with h2 | h2
 · rw[h2.1]at hd;cases hd
 · refine⟨?_,h2.2.1,h2.2.2.1⟩
   rw[h2.2.1]
   obtain⟨j,hj⟩:∃ j,xs.length+1-m.n=j+1:=⟨xs.length-m.n,oz⟩
   rw[hj,show xs.length+1-(m.n+1)=j by omega]
   rfl
theorem ZgJ {r:Except Int (List Itm)}:(QE f r).2.n=0:=by
 cases r with
 | error c=>rfl
 | ok xs=>unfold QE ZbO;simp only;split<;>rfl
end
def Yi (d:Db) (n:Nat) (t:List BA):List Itm:=(QE (ge d.frames n) (YY (ge d.frames n) (Zam (d.frames.take n)) t)).1
def XK (d:Db) (n:Nat) (t:List BA):Ms:=(QE (ge d.frames n) (YY (ge d.frames n) (Zam (d.frames.take n)) t)).2
theorem verV {d:Db} {n:Nat} {t:List BA}:ZlH d.frames d.vars (ge d.frames n) (Zam (d.frames.take n)) t=(ZaM d.frames d.vars (ge d.frames n) (Yi d n t) ((Yi d n t).length+1) (XK d n t)).v:=rfl
theorem ZfZ {d:Db} {n:Nat} {t:List BA} (hM:Zg8 (Zam (d.frames.take n)) d.frames.length) (hf:Ziy (ge d.frames n)):ZvA d.frames (Yi d n t)∧ZmT (Yi d n t) (XK d n t):=Zns fun _ h=>ZuX hM hf h
section
variable {fs:List Fr} {vars:List BA} {f:Fr} {xs:List Itm} {m:Ms}
theorem Zkn:ZI fs vars f xs ⟨m.sk,m.tg,m.n,m.kn,(m.v.1,m.v.2),false⟩=ZI fs vars f xs m:=rfl
theorem inv_i (h0:ZvA fs xs) (h:ZmT xs m) (e:m.kn=false):m.n<xs.length∧okI fs.length m.tg.length (ge xs m.n):=⟨h.kn e,by rw[h.tgn];exact(h0.2 _ (h.kn e)).1⟩
theorem Zjy (h0:ZvA fs xs) (h:ZmT xs m):m.sk.length≤2000∧m.tg.length≤2000∧m.n≤2000:=by
 have h1:=h.skn
 have h2:=h.n
 have h3:=h.tgn
 have h4:=ZqT xs m.n
 have h5:=h0.1
 omega
end
theorem Zc6 {fs:List Fr} {k:Nat} (h:k<fs.length):Zam (fs.take (k+1))=Zbc (Zam (fs.take k)) (ge fs k).label ((k:Nat):Int):=by
 unfold Zam
 rw[ZZ h,List.zipIdx_append,List.foldl_append]
 simp[List.length_take,Nat.min_eq_left (Nat.le_of_lt h)]
theorem Zal {fs:List Fr}:∀ k,k≤fs.length→Zg8 (Zam (fs.take k)) k
 | 0,_=>fun s n h=>by simp[Zam,QO]at h
 | k+1,hk=>fun s n h=>by
  rw[Zc6 oz,Zc7]at h
  split at h
  · injection h with h;omega
  · have:=Zal k oz s n h;omega
theorem Zae {M:List (BA×Int)} {a b:Nat} (h:Zg8 M a) (hab:a≤b):Zg8 M b:=fun s n e=>by have:=h s n e;omega
section
variable {d:Db}
theorem chk_fr (h:Zaz d=0):∀ k,k<d.frames.length→frE d k=0:=by
 unfold Zaz at h
 split at h
 · cases h
 split at h
 · rename_i h2
   rw[h]at h2
   simp at h2
 · exact Qj h
theorem ZpG (h:Zaz d=0):d.frames.length≤400:=by
 unfold Zaz at h
 split at h
 · cases h
 rename_i h1
 simp only[Bool.or_eq_true,decide_eq_true_eq,not_or]at h1
 omega
theorem Zwd (h:Zaz d=0):Zbr d=0:=by
 unfold Zaz at h
 split at h
 · cases h
 split at h
 · rename_i h2
   rw[h]at h2
   simp at h2
 · rename_i h2
   simpa using h2
theorem Znp (h:Zbr d=0):∀ v∈d.vars,¬ v∈d.consts:=by
 unfold Zbr at h
 split at h
 · rename_i h2
   rw[h]at h2
   simp at h2
 · intro v hv hc
   obtain⟨j,hj,rfl⟩:=Xp hv
   have:=Qj h j hj
   unfold ZgC at this
   split at this
   · cases this
   split at this
   · cases this
   · rename_i h3
     simp[hc]at h3
theorem Zr8 {k:Nat} {y:Hy} {bs:List Hy} {dm:Bool} (h:Zc9 d k y bs dm=0):(1≤y.text.length∧y.text.length≤200)∧(y.floating=true→y.text.length=2∧ge y.text 1∈d.vars):=by
 have h1:=Za0 h
 unfold Zc9 at h
 split at h
 · cases h
 split at h
 · cases h
 split at h
 · cases h
 split at h
 · cases h
 rename_i h4
 have h5:y.floating=true→y.text.length=2∧ge y.text 1∈d.vars:=fun hf=>⟨Yv h1 hf,by simp[Zfb,hf]at h4;exact h4.2⟩
 refine⟨?_,h5⟩
 cases hf:y.floating with
 | true=>have:=(h5 hf).1;omega
 | false=>simp[Zar,hf]at h1;have:=List.length_pos_iff.2 h1.2.1;omega
theorem ZvW (hs:Zbr d=0) {k:Nat} (h:frE d k=0):okF (ge d.frames k)∧okT (ge d.frames k)∧Ziy (ge d.frames k):=by
 have hz:=Zg9 h
 unfold frE Zda at h
 split at h
 · cases h
 split at h
 · cases h
 split at h
 · cases h
 split at h
 · rename_i h2
   rw[h]at h2
   simp at h2
 rename_i h3
 have h3:ZmV d k=0:=by simpa using h3
 have hy:∀ y∈(ge d.frames k).hyps++(ge d.frames k).dummies,(1≤y.text.length∧y.text.length≤200)∧(y.floating=true→y.text.length=2∧ge y.text 1∈d.vars):=fun y hy=>by
  obtain⟨j,hj,rfl⟩:=Xp hy
  exact Zr8 (Qj h3 j hj)
 split at h
 · cases h
 rename_i h4
 split at h
 · rename_i h2
   rw[h]at h2
   simp at h2
 rename_i h5
 have hc:ge (ge d.frames k).text 0∈d.consts:=by
  have h6:Zbu d (ge d.frames k).text=0:=by simpa using h5
  unfold Zbu Zpj at h6
  split at h6
  · rename_i h7
    simp only[Bool.and_eq_true,decide_eq_true_eq]at h7
    exact h7.1
  · cases h6
 have hp:0< (ge d.frames k).text.length:=by
  simp only[Bool.or_eq_true,decide_eq_true_eq,not_or]at h4
  omega
 refine⟨⟨oz,fun y hy' hf=>((hy y (List.mem_append_left _ hy')).2 hf).1⟩,⟨hp,fun y hy' hf e=>?_⟩,fun y hy'=>⟨(hy y hy').1.1,Nat.le_trans (hy y hy').1.2 oz⟩⟩
 have:=((hy y (List.mem_append_left _ hy')).2 hf).2
 rw[e]at this
 exact Znp hs _ this hc
theorem XJ (h:Zaz d=0):∀ g∈d.frames,okF g∧okT g∧Ziy g:=fun g hg=>by
 obtain⟨k,hk,rfl⟩:=Xp hg
 exact ZvW (Zwd h) (chk_fr h k hk)
def ZgR (d:Db) (z:Int) (t:List BA):(Int×Int)×Int:=
 if YX d z=0 then(ZlH d.frames d.vars (ge d.frames z.toNat) (Zam (d.frames.take z.toNat)) t,0)else((0,0),YX d z)
def ZqQ (d:Db) (k:Nat):Int×Int:=if(ge d.frames k).thm then ZlH d.frames d.vars (ge d.frames k) (Zam (d.frames.take k)) (ge d.frames k).proof else(0,0)
def ZfH (d:Db) (z:Int):(Int×Int)×Int:=if YX d z=0 then(ZqQ d z.toNat,0)else((0,0),YX d z)
theorem Zdq {z:Int} (h:YX d z=0):Zaz d=0∧0≤z∧z< (d.frames.length:Int):=by
 unfold YX at h
 split at h
 · rename_i h2;exact absurd h h2
 split at h
 · cases h
 · rename_i h1 h2
   exact⟨by simpa using h1,oz,oz⟩
end
theorem ZpH {d:Db} (h:Zaz d=0):∀ k,k<d.frames.length→frE d k=0:=by
 unfold Zaz at h
 split at h
 · simp at h
 · split at h
   · rename_i h1;simp[h]at h1
   · exact Qj h
theorem ZvX {d:Db} {k:Nat} (h:frE d k=0):frL d k (ge d.frames k).label=false:=by
 unfold frE Zda at h
 by_cases h1:(!QK (ge d.frames k).label)=true
 · rw[if_pos h1]at h;exact absurd h dz
 rw[if_neg h1]at h
 by_cases h2:((frL d k (ge d.frames k).label||hyL d k (ge d.frames k).label)||Zdv d (ge d.frames k).label)=true
 · rw[if_pos h2]at h;exact absurd h dz
 simp only[Bool.or_eq_true,not_or,Bool.not_eq_true]at h2
 exact h2.1.1
theorem Zuc {d:Db} (h:Zaz d=0) {p q:Nat} (hpq:p<q) (hq:q<d.frames.length):(ge d.frames p).label≠(ge d.frames q).label:=fun e=>by
 have:=ZvX (ZpH h q hq)
 unfold frL at this
 rw[List.any_eq_false]at this
 refine this (ge d.frames p) ?_ (by simp[e])
 have e2:ge (d.frames.take q) p=ge d.frames p:=by simp[ge,List.getD_eq_getElem?_getD,hpq]
 rw[←e2]
 exact Zu (by rw[List.length_take];omega)
theorem ZvL {d:Db} (h:Zaz d=0) {p q:Nat} (hp:p<d.frames.length) (hq:q<d.frames.length) (e:(ge d.frames p).label=(ge d.frames q).label):p=q:=by
 rcases Nat.lt_trichotomy p q with h1 | h1 | h1
 · exact absurd e (Zuc h h1 hq)
 · exact h1
 · exact absurd e.symm (Zuc h h1 hp)
theorem Zhb {α:Type} [Inhabited α] {p:α→Bool}:∀ {l:List α} {k:Nat},k<l.length→(∀ j,j<k→p (ge l j)=false)→p (ge l k)=true→l.find? p=some (ge l k)
 | [],k,h,_,_=>by simp at h
 | x::r,0,_,_,h3=>by
  simp only[Zxe]at h3 ⊢
  simp[h3]
 | x::r,k+1,h1,h2,h3=>by
  have h4:=h2 0 oz
  simp only[Zxe,ZvU]at h3 h4 ⊢
  rw[List.find?_cons_of_neg (by simp[h4])]
  exact Zhb (by simpa using h1) (fun j hj=>by have:=h2 (j+1) oz;simpa only[ZvU]using this) h3
theorem Zpq {α:Type} [Inhabited α] {p:α→Bool} {l:List α} (h:∀ j,j<l.length→p (ge l j)=false):l.find? p=none:=List.find?_eq_none.2 fun x hx=>by
 obtain⟨j,hj,rfl⟩:=Xp hx
 simp[h j hj]
section
variable {l:List Bd} {s:BA} {k:Nat} {t vs:List BA}
theorem Zo8 (hk:k<l.length) (h:∀ j,j<k→¬ (ge l j).var=s) (he:(ge l k).var=s):Yu (Z1 l) s=(ge l k).text:=by
 unfold Yu
 rw[Zc8,Zhb hk (fun j hj=>by simpa using h j hj) (by simpa using he)]
 rfl
theorem Zk1 (h:∀ j,j<l.length→¬ (ge l j).var=s):Yu (Z1 l) s=[s]:=by
 unfold Yu
 rw[Zc8,Zpq (fun j hj=>by simpa using h j hj)]
 rfl
theorem ZvB (t vs:List BA):QB t (QC vs)=QB t vs:=by
 have e:Zih (QC vs)=Zih vs:=by
  funext out s
  unfold Zih
  simp only[mem_lstL]
 unfold QB
 rw[e]
theorem ZvC {t vs:List BA}:(QB t vs).length≤t.length:=by
 have key:∀(t out:List BA),(t.foldl (Zih vs) out).length≤out.length+t.length:=by
  intro t
  induction t with
  | nil=>intro out;simp
  | cons s r ih=>
   intro out
   have h1:=ih (Zih vs out s)
   have h2:(Zih vs out s).length≤out.length+1:=by unfold Zih;split<;>simp
   simp only[List.foldl_cons,List.length_cons]
   omega
 simpa [QB]using key t []
end
section
variable {M:BM} {pattern text:List BA} {k p:Nat}
theorem ZuV (hk:k<pattern.length) (h:text.take p=XQ M (pattern.take k)) (hp:p≤text.length) (hb:¬ ((Yu M (ge pattern k)).length≤text.length-p∧(text.take (p+(Yu M (ge pattern k)).length)).drop p=Yu M (ge pattern k))):¬ XQ M pattern=text:=by
 intro e
 apply hb
 have e1:XQ M pattern=XQ M (pattern.take k)++(Yu M (ge pattern k)++XQ M (pattern.drop (k+1))):=by
  rw[←List.append_assoc,←Y3 hk,←Zeu,List.take_append_drop]
 have hl:(XQ M (pattern.take k)).length=p:=by rw[←h,List.length_take];omega
 have e2:text.drop p=Yu M (ge pattern k)++XQ M (pattern.drop (k+1)):=by
  rw[←e,e1,List.drop_append_of_le_length oz,List.drop_of_length_le oz,List.nil_append]
 constructor
 · have:=congrArg List.length e2
   rw[List.length_drop,List.length_append]at this
   omega
 · rw[List.drop_take,Nat.add_sub_cancel_left,e2,List.take_left]
theorem ZnN (hk:k<pattern.length) (h:text.take p=XQ M (pattern.take k)) (hb:(text.take (p+(Yu M (ge pattern k)).length)).drop p=Yu M (ge pattern k)):text.take (p+(Yu M (ge pattern k)).length)=XQ M (pattern.take (k+1)):=by
 have e:=List.take_append_drop p (text.take (p+(Yu M (ge pattern k)).length))
 rw[List.take_take,Nat.min_eq_left (Nat.le_add_right _ _),hb,h]at e
 rw[Y3 hk]
 exact e.symm
theorem Zq4 (h:text.take p=XQ M pattern) (hp:p≤text.length):decide (((p:Nat):Int)=((text.length:Nat):Int))=decide (XQ M pattern=text):=Zpp h hp
end
section
variable {l:List Bd} {ap wd:List Pr} {us:List BA} {k:Nat} {x:Pr}
theorem brk_at (hk:k< (Zcm l ap us).length) (h:∀ j,j<k→Zfy wd (ge (Zcm l ap us) j)=false) (hh:Zfy wd (ge (Zcm l ap us) k)=true):Zj4 l ap us wd=some (ge (Zcm l ap us) k):=Zhb hk h hh
theorem Zw3 (h:∀ j,j< (Zcm l ap us).length→Zfy wd (ge (Zcm l ap us) j)=false):Zj4 l ap us wd=none:=Zpq h
theorem Zu6 (hk:k<wd.length) (h:QN (ge wd k)=x):x∈wd.map QN:=h▸List.mem_map_of_mem (Zu hk)
theorem Zrq (h:∀ j,j<wd.length→¬ QN (ge wd j)=x):¬ x∈wd.map QN:=fun hx=>by
 obtain⟨y,hy,rfl⟩:=List.mem_map.1 hx
 obtain⟨j,hj,rfl⟩:=Xp hy
 exact h j hj rfl
theorem ZoD (l:List Bd) (us:List BA) (s:BA):QB (Yu (Z1 l) s) us=Zac l us s:=(ZvB _ _).symm
theorem ZkO {s:BA} (hl:∀ b∈l,b.text.length≤2000):(Zac l us s).length≤2000:=Nat.le_trans ZvC (ZcD dz hl s)
end
def Zcj (vars:List BA) (wide:List Pr) (g:Fr) (es:List (List BA)):List BA×Int:=match ZfW vars wide g es 0 with
 | .ok t=>(t,0)
 | .error c=>([],c)
section
variable {vars:List BA} {wide:List Pr} {g:Fr} {es sk:List (List BA)} {j b:Nat}
theorem ux_24 (hj:j<g.hyps.length) (h:Ze5 g.hyps es 0 j=false):Zcj vars wide g es=([],24):=by
 rw[Zcj,ZfW,ZaK hj h];rfl
theorem ux_25 (hk:∀ j,j<g.hyps.length→Ze5 g.hyps es 0 j=true) (hj:j<g.hyps.length) (h:ZhB g.hyps es 0 (YW g.hyps es 0 g.hyps.length) j=false):Zcj vars wide g es=([],25):=by
 rw[Zcj,ZfW,Xd hk,ZaK hj h];rfl
variable (hk:∀ j,j<g.hyps.length→Ze5 g.hyps es 0 j=true) (hm:∀ j,j<g.hyps.length→ZhB g.hyps es 0 (YW g.hyps es 0 g.hyps.length) j=true)
include hk hm
theorem ux_15 (h:ZaS (Z1 (YW g.hyps es 0 g.hyps.length)) g.text 2000=false):Zcj vars wide g es=([],15):=by
 rw[Zcj,ZfW,Xd hk,Xd hm,h];rfl
theorem ux_26 (h:ZaS (Z1 (YW g.hyps es 0 g.hyps.length)) g.text 2000=true) (h2:Zd9 (YW g.hyps es 0 g.hyps.length) g.apart vars wide=true):Zcj vars wide g es=([],26):=by
 rw[Zcj,ZfW,Xd hk,Xd hm,h,h2];rfl
theorem ux_ok (h:ZaS (Z1 (YW g.hyps es 0 g.hyps.length)) g.text 2000=true) (h2:Zd9 (YW g.hyps es 0 g.hyps.length) g.apart vars wide=false):Zcj vars wide g es=(XQ (Z1 (YW g.hyps es 0 g.hyps.length)) g.text,0):=by
 rw[Zcj,ZfW,Xd hk,Xd hm,h,h2];rfl
end
theorem ZjD {α:Type} [Inhabited α] (l:List α) (b j:Nat):ge (l.drop b) j=ge l (b+j):=by simp[ge,List.getD_eq_getElem?_getD]
theorem Zni (vars:List BA) (wide:List Pr) (g:Fr) (sk:List (List BA)) (b:Nat):ZfW vars wide g (sk.drop b) 0=ZfW vars wide g sk b:=by
 have e1:Ze5 g.hyps (sk.drop b) 0=Ze5 g.hyps sk b:=by funext j;unfold Ze5;rw[ZjD,Nat.zero_add]
 have e2:YW g.hyps (sk.drop b) 0 g.hyps.length=YW g.hyps sk b g.hyps.length:=by
  unfold YW
  congr 1
  funext j
  unfold Zqn
  rw[ZjD,Nat.zero_add]
 have e3:∀ l,ZhB g.hyps (sk.drop b) 0 l=ZhB g.hyps sk b l:=fun l=>by funext j;unfold ZhB;rw[ZjD,Nat.zero_add]
 unfold ZfW
 rw[e1,e2,e3]
theorem Znh (vars:List BA) (wide:List Pr) (g:Fr) (sk:List (List BA)):Zdu vars wide g sk=if sk.length<g.hyps.length then .error 23 else match Zcj vars wide g (sk.drop (sk.length-g.hyps.length))with
 | (t,c)=>if c=0 then .ok (sk.take (sk.length-g.hyps.length)++[t])else .error c:=by
 unfold Zdu Zcj
 rw[Zni]
 split
 · rfl
 · have hne:∀ c,ZfW vars wide g sk (sk.length-g.hyps.length)= .error c→c≠0:=fun c hc=>by
    rename_i h0
    exact Zng (vars:=vars) (wide:=wide) (g:=g) (sk:=sk) (c:=c) (by rw[Zdu,if_neg h0,hc])
   cases h:ZfW vars wide g sk (sk.length-g.hyps.length)with
   | ok t=>rfl
   | error c=>simp only[if_neg (hne c h)]
structure Ri where
 label:BA
 back:Int
 unk:Bool
instance instInhRi:Inhabited Ri:=⟨⟨⟨#[]⟩,0,false⟩⟩
def riC (x:Ri):List CD:=[.lit (.string x.label),.lit (.int .i64 x.back),.lit (.bool x.unk)]
def ZhA (l:List Ri):CD:=.sl (l.map riC)
def Zl8 (t:List BA):List Ri:=t.map fun w=>⟨w, -1,decide (w=⟨#[63]⟩)⟩
theorem Zn6 {t:List BA} {k:Nat} (h:k<t.length):Zl8 (t.take (k+1))=Zl8 (t.take k)++[⟨ge t k, -1,decide (ge t k=⟨#[63]⟩)⟩]:=by
 rw[ZZ h,Zl8,List.map_append];rfl
def Zbt (f:Fr) (labels:List BA) (tags:List Int) (l:Lt):Option Ri:=
 if l.number=0 then some ⟨⟨#[]⟩, -1,true⟩
 else if l.number≤f.hyps.length then some ⟨(ge f.hyps (l.number-1).toNat).label, -1,false⟩
 else if l.number≤(f.hyps.length:Int)+(labels.length:Int)then some ⟨ge labels (l.number-(f.hyps.length:Int)-1).toNat, -1,false⟩
 else if l.number≤(f.hyps.length:Int)+(labels.length:Int)+(tags.length:Int)then some ⟨⟨#[]⟩,ge tags (l.number-(f.hyps.length:Int)-(labels.length:Int)-1).toNat,false⟩
 else none
def Zek (f:Fr) (labels:List BA):List Lt→List Ri×List Int→Option (List Ri×List Int)
 | [],q=>some q
 | l::r,q=>match Zbt f labels q.2 l with
  | none=>none
  | some x=>Zek f labels r (q.1++[x],if l.tagged then q.2++[((q.1.length:Nat):Int)]else q.2)
section
variable {f:Fr} {labels:List BA} {ls:List Lt} {k:Nat} {q r:List Ri×List Int} {x:Ri}
theorem ZgQ (a b:List Lt) (q:List Ri×List Int):Zek f labels (a++b) q=(Zek f labels a q).bind (Zek f labels b):=by
 induction a generalizing q with
 | nil=>rfl
 | cons l a ih=>
  simp only[List.cons_append,Zek]
  cases Zbt f labels q.2 l with
  | none=>rfl
  | some x=>exact ih _
theorem ZhT (hk:k<ls.length) (h:Zek f labels (ls.take k) ([],[])=some q) (hx:Zbt f labels q.2 (ge ls k)=some x):Zek f labels (ls.take (k+1)) ([],[])=some (q.1++[x],if(ge ls k).tagged then q.2++[((q.1.length:Nat):Int)]else q.2):=by
 rw[ZZ hk,ZgQ,h]
 simp[Zek,hx]
theorem Zrn (hk:k<ls.length) (h:Zek f labels (ls.take k) ([],[])=some q) (hx:Zbt f labels q.2 (ge ls k)=none):Zek f labels ls ([],[])=none:=by
 rw[←List.take_append_drop (k+1) ls,ZgQ,ZZ hk,ZgQ,h]
 simp[Zek,hx]
theorem ZkE:∀(ls:List Lt) (q r:List Ri×List Int),Zek f labels ls q=some r→r.1.length=q.1.length+ls.length∧r.2.length≤q.2.length+ls.length
 | [],q,r,h=>by simp only[Zek]at h;injection h with h;subst h;simp
 | l::ls,q,r,h=>by
  simp only[Zek]at h
  split at h
  · cases h
  · have h1:=ZkE ls _ r h
    split at h1<;>(simp at h1 ⊢;omega)
end
def Z6 (f:Fr) (t:List BA):List Ri×Int:=
 if !Q0 t then(if 2000<t.length then([],10)else(Zl8 t,0))
 else if(QX t).2.2=20 then([],20)
 else if f.hyps.any fun h=>decide (h.label∈Xm t)then([],20)
 else if(QX t).2.2=21 then([],21)
 else match Zek f (Xm t) (Zj (Yd t)).1 ([],[])with
  | none=>([],21)
  | some q=>if(QX t).2.2=0 then(q.1,0)else([],(QX t).2.2)
def Z9 (d:Db) (i:Nat) (s:BA):Int:=match(d.frames.take i).findIdx? (fun f=>decide (f.label=s))with
 | some k=>(k:Int)
 | none=> -1
section
variable {d:Db} {i k j:Nat} {s:BA} {z:Int}
theorem ZjB {α:Type} [Inhabited α] {l:List α} (h:j<i):ge (l.take i) j=ge l j:=by
 simp only[ge,List.getD_eq_getElem?_getD,List.getElem?_take]
 rw[if_pos h]
theorem Zpf {α:Type} [Inhabited α] {l m:List α} {p:Nat} (h:p<l.length):ge (l++m) p=ge l p:=by
 simp only[ge,List.getD_eq_getElem?_getD]
 rw[List.getElem?_append_left h]
theorem ZfB (hi:i≤d.frames.length) (hk:k<i) (h0:∀ j,j<k→¬ (ge d.frames j).label=s) (h:(ge d.frames k).label=s):Z9 d i s=(k:Int):=by
 have:(d.frames.take i).findIdx? (fun f=>decide (f.label=s))=some k:=by
  rw[List.findIdx?_eq_some_iff_getElem]
  have hl:k< (d.frames.take i).length:=by rw[List.length_take];omega
  refine⟨hl,?_,fun j hj=>?_⟩
  · rw[←Xj hl,ZjB hk];simpa using h
  · rw[←Xj (show j< (d.frames.take i).length by omega),ZjB oz];simpa using h0 j hj
 rw[Z9,this]
theorem ZdP (h0:∀ j,j<i→¬ (ge d.frames j).label=s):Z9 d i s= -1:=by
 have:(d.frames.take i).findIdx? (fun f=>decide (f.label=s))=none:=by
  rw[List.findIdx?_eq_none_iff]
  intro x hx
  obtain⟨j,hj,hjl,rfl⟩:=mem_take_geF hx
  simpa using h0 j hj
 rw[Z9,this]
where
 mem_take_geF {l:List Fr} {x:Fr} {m:Nat} (h:x∈l.take m):∃ i,i<m∧i<l.length∧ge l i=x:=by
  obtain⟨i,hi,rfl⟩:=List.getElem_of_mem h
  rw[List.length_take]at hi
  exact⟨i,oz,oz,by rw[Xj oz,List.getElem_take]⟩
theorem ZtD (h:¬ Z9 d i s<0):0≤Z9 d i s∧(Z9 d i s).toNat<i∧(Z9 d i s).toNat<d.frames.length:=by
 unfold Z9 at h ⊢
 split
 · rename_i k hk
   have h1:=(List.findIdx?_eq_some_iff_getElem.1 hk).1
   rw[List.length_take]at h1
   exact⟨oz,by rw[Int.toNat_natCast];omega,by rw[Int.toNat_natCast];omega⟩
 · rename_i hk
   rw[hk]at h
   exact absurd dz h
theorem ZoG:∀ k,k≤d.frames.length→Ya (Zam (d.frames.take k)) s=some z→0≤z∧z<k∧(ge d.frames z.toNat).label=s
 | 0,_,h=>by simp[Zam,QO]at h
 | k+1,hk,h=>by
  rw[Zc6 oz,Zc7]at h
  split at h
  · rename_i e
    injection h with h
    subst h
    exact⟨oz,oz,by rw[e];rfl⟩
  · have:=ZoG k oz h
    exact⟨this.1,oz,this.2.2⟩
theorem ZkR:∀ k,k≤d.frames.length→Ya (Zam (d.frames.take k)) s=none→∀ j,j<k→¬ (ge d.frames j).label=s
 | 0,_,_=>fun j hj=>by omega
 | k+1,hk,h=>fun j hj e=>by
  rw[Zc6 oz,Zc7]at h
  split at h
  · cases h
  · rename_i e2
    rcases Nat.lt_or_ge j k with h3 | h3
    · exact ZkR k oz h j h3 e
    · rw[show j=k by omega]at e
      exact e2 e.symm
theorem ZoF (hc:Zaz d=0) (hi:i≤d.frames.length):Ya (Zam (d.frames.take i)) s=if Z9 d i s<0 then none else some (Z9 d i s):=by
 cases h:Ya (Zam (d.frames.take i)) s with
 | none=>rw[ZdP (ZkR i hi h),if_pos dz]
 | some z=>
  obtain⟨h1,h2,h3⟩:=ZoG i hi h
  have h4:Z9 d i s=((z.toNat:Nat):Int):=ZfB hi oz (fun j hj e=>by
   have:=ZvL hc (show j<d.frames.length by omega) (show z.toNat<d.frames.length by omega) (e.trans h3.symm)
   omega) h3
  rw[h4,if_neg oz,show((z.toNat:Nat):Int)=z by omega]
theorem fr_lst (h:frE d k=0):ZmV d k=0:=by
 unfold frE Zda at h
 split at h
 · cases h
 split at h
 · cases h
 split at h
 · cases h
 split at h
 · rename_i h2
   rw[h]at h2
   simp at h2
 rename_i h3
 simpa using h3
theorem ZoU (h:QK s=true):¬ s=⟨#[63]⟩:=fun e=>by rw[e]at h;exact absurd h dz
theorem hyp_at (h:ZmV d k=0) (hj:j< (ge d.frames k).hyps.length):QF (ge d.frames k) (ge (ge d.frames k).hyps j).label=some (ge (ge d.frames k).hyps j)∧QK (ge (ge d.frames k).hyps j).label=true:=by
 have hl:∀ p,p< (ge d.frames k).hyps.length→ge ((ge d.frames k).hyps++(ge d.frames k).dummies) p=ge (ge d.frames k).hyps p:=fun p hp=>Zpf hp
 have hj2:j< ((ge d.frames k).hyps++(ge d.frames k).dummies).length:=by rw[List.length_append];omega
 have h1:Zb7 d k j=0:=Qj h j hj2
 unfold Zb7 at h1
 rw[hl j hj]at h1
 refine⟨?_,?_⟩
 · unfold QF
   rw[←hl j hj]
   refine Zhb hj2 (fun p hp=>?_) yz
   rw[hl j hj,hl p oz]
   have h2:(((ge d.frames k).hyps++(ge d.frames k).dummies).take j).any (ZjA (ge (ge d.frames k).hyps j))=false:=by
    unfold Zc9 at h1
    split at h1
    · cases h1
    split at h1
    · cases h1
    split at h1
    · cases h1
    rename_i h3
    simpa using h3
   have h3:=List.any_eq_false.1 h2 (ge (ge d.frames k).hyps p) (by
    rw[←hl p oz,←ZjB hp]
    exact Zu (by rw[List.length_take];omega))
   simpa [ZjA]using h3
 · have h2:=Za0 h1
   simp only[Zar,Bool.or_eq_false_iff,Bool.not_eq_false']at h2
   exact h2.1.1.1
end
def ZfI:List Itm→Int→List Int
 | [],_=>[]
 | x::r,b=>if x.tagged then b::ZfI r (b+1)else ZfI r (b+1)
theorem ZhG (x:Itm):∀(l:List Itm) (b:Int),ZfI (l++[x]) b=ZfI l b++(if x.tagged then [b+(l.length:Int)]else [])
 | [],b=>by simp only[List.nil_append,ZfI,List.length_nil,Int.natCast_zero,Int.add_zero]
 | y::l,b=>by
  simp only[List.cons_append,ZfI,ZhG x l (b+1),List.length_cons,show b+1+(l.length:Int)=b+((l.length+1:Nat):Int) by omega]
  split<;>rfl
theorem ZgG:∀(l:List Itm) (b:Int),∀ z∈ZfI l b,b≤z∧z<b+(l.length:Int)
 | [],b,z,h=>by simp[ZfI]at h
 | y::l,b,z,h=>by
  simp only[ZfI]at h
  simp only[List.length_cons]
  split at h
  · rcases List.mem_cons.1 h with rfl | h
    · omega
    · have:=ZgG l (b+1) z h;omega
  · have:=ZgG l (b+1) z h;omega
def Zur (f:Fr) (M:List (BA×Int)) (tgs:List Int) (x:Itm) (r:Ri):Prop:=
 (r.unk=true∧x.kind=0)∨(r.unk=false∧r.back= -1∧¬ r.label=⟨#[63]⟩∧x.kind=(Yl f M r.label).kind∧x.text=(Yl f M r.label).text∧x.number=(Yl f M r.label).number)∨
 (r.unk=false∧x.kind=4∧0≤x.number∧x.number<tgs.length∧r.back=ge tgs x.number.toNat∧0≤r.back)
section
variable {f:Fr} {M:List (BA×Int)} {labels:List BA}
theorem Zr4 {tags:List Int} {l:Lt} (hf:∀ j,j<f.hyps.length→QF f (ge f.hyps j).label=some (ge f.hyps j)∧QK (ge f.hyps j).label=true) (hl:∀ s∈labels,QK s=true) (hn:0≤l.number) (ht:∀ z∈tags,0≤z):
 match Q5 f M labels tags.length l with
 | none=>Zbt f labels tags l=none
 | some x=>∃ r,Zbt f labels tags l=some r∧Zur f M tags x r∧x.tagged=l.tagged:=by
 unfold Q5 Zbt
 by_cases h0:l.number=0
 · rw[if_pos h0,if_pos h0]
   exact⟨_,rfl,.inl ⟨rfl,rfl⟩,rfl⟩
 rw[if_neg h0,if_neg h0]
 by_cases h1:l.number≤(f.hyps.length:Int)
 · rw[if_pos h1,if_pos h1]
   have h2:=hf (l.number-1).toNat oz
   refine⟨_,rfl,.inr (.inl ⟨rfl,rfl,ZoU h2.2,?_⟩),rfl⟩
   rw[Zg0 (ZoU h2.2) (by rw[h2.1];rfl),h2.1]
   exact⟨rfl,rfl,rfl⟩
 rw[if_neg h1,if_neg h1]
 by_cases h2:l.number≤((f.hyps.length+labels.length:Nat):Int)
 · rw[if_pos h2,if_pos oz]
   have e:(l.number-1-(f.hyps.length:Int)).toNat=(l.number-(f.hyps.length:Int)-1).toNat:=by omega
   rw[e]
   exact⟨_,rfl,.inr (.inl ⟨rfl,rfl,ZoU (hl _ (Zu oz)),rfl,rfl,rfl⟩),rfl⟩
 have h2':¬ l.number≤(f.hyps.length:Int)+(labels.length:Int):=by omega
 rw[if_neg h2,if_neg h2']
 by_cases h3:l.number≤((f.hyps.length+labels.length+tags.length:Nat):Int)
 · have h3':l.number≤(f.hyps.length:Int)+(labels.length:Int)+(tags.length:Int):=by omega
   rw[if_pos h3,if_pos h3']
   have e:(l.number-1-(f.hyps.length:Int)-(labels.length:Int)).toNat=(l.number-(f.hyps.length:Int)-(labels.length:Int)-1).toNat:=by omega
   refine⟨_,rfl,.inr (.inr ⟨rfl,rfl,by show 0≤l.number-1-(f.hyps.length:Int)-(labels.length:Int);omega,by show l.number-1-(f.hyps.length:Int)-(labels.length:Int)<_;omega,by show _=ge tags (l.number-1-(f.hyps.length:Int)-(labels.length:Int)).toNat;rw[e],?_⟩),rfl⟩
   exact ht _ (Zu oz)
 · have h3':¬ l.number≤(f.hyps.length:Int)+(labels.length:Int)+(tags.length:Int):=by omega
   rw[if_neg h3,if_neg h3']
theorem Zo1 (hf:∀ j,j<f.hyps.length→QF f (ge f.hyps j).label=some (ge f.hyps j)∧QK (ge f.hyps j).label=true) (hl:∀ s∈labels,QK s=true):∀(ls:List Lt) (out:List Ri) (tags:List Int),(∀ l∈ls,0≤l.number)→(∀ z∈tags,0≤z)→
 (match Xb f M labels ls tags.length with
 | none=>Zek f labels ls (out,tags)=none
 | some xs=>∃ rs tg,Zek f labels ls (out,tags)=some (out++rs,tg)∧rs.length=xs.length∧∀ k,k<xs.length→Zur f M (tags++ZfI (xs.take k) (out.length:Int)) (ge xs k) (ge rs k))
 | [],out,tags,_,_=>⟨[],tags,by simp[Zek],rfl,fun k hk=>by simp at hk⟩
 | l::r,out,tags,hn,ht=>by
  have h1:=Zr4 (M:=M) (tags:=tags) hf hl (hn l yz) ht
  simp only[Xb,Zek]
  cases hi:Q5 f M labels tags.length l with
  | none=>rw[hi]at h1;simp only at h1 ⊢;rw[h1]
  | some x=>
   rw[hi]at h1
   obtain⟨y,hy,hr,hx⟩:=h1
   simp only[hy]
   have ht2:∀ z∈(if l.tagged then tags++[((out.length:Nat):Int)]else tags),0≤z:=fun z hz=>by
    split at hz
    · rcases List.mem_append.1 hz with hz | hz
      · exact ht z hz
      · rw[List.mem_singleton.1 hz];omega
    · exact ht z hz
   have h2:=Zo1 hf hl r (out++[y]) (if l.tagged then tags++[((out.length:Nat):Int)]else tags) (fun z hz=>hn z (List.mem_cons_of_mem _ hz)) ht2
   have e1:(if l.tagged then tags++[((out.length:Nat):Int)]else tags).length=if l.tagged then tags.length+1 else tags.length:=by split<;>simp
   rw[e1]at h2
   cases hs:Xb f M labels r (if l.tagged then tags.length+1 else tags.length)with
   | none=>rw[hs]at h2;exact h2
   | some xs=>
    rw[hs]at h2
    obtain⟨rs,tg,h3,h4,h5⟩:=h2
    refine⟨y::rs,tg,by rw[h3];simp,by simp[h4],fun k hk=>?_⟩
    cases k with
    | zero=>
     rw[Zxe,Zxe,List.take_zero]
     simpa [ZfI]using hr
    | succ k=>
     have h6:=h5 k (by simpa using hk)
     rw[ZvU,ZvU,List.take_succ_cons]
     simp only[ZfI,hx]
     cases hb:l.tagged with
     | true=>simpa [hb]using h6
     | false=>simpa [hb]using h6
end
theorem ZjC {α β:Type} [Inhabited α] [Inhabited β] {g:α→β} {l:List α} {k:Nat} (h:k<l.length):ge (l.map g) k=g (ge l k):=by
 rw[Xj (by simpa using h),Xj h,List.getElem_map]
section
variable {d:Db} {i:Nat} {t:List BA}
theorem ZhV {z:List BA×BA} (h:XI t=some z):z=(Xm t,Yd t)∧∀ s∈Xm t,QK s=true:=by
 simp only[XI]at h
 split at h
 · cases h
 split at h
 · cases h
 rename_i h2
 injection h with h
 exact⟨h.symm,fun s hs=>by have h3:=List.any_eq_false.1 (Bool.eq_false_iff.2 h2) s hs;simpa using h3⟩
theorem ZrI (hs:List Hy) (l:List BA):(l.any fun s=>hs.any fun h=>decide (h.label=s))=hs.any fun h=>decide (h.label∈l):=by
 rw[Bool.eq_iff_iff]
 simp only[List.any_eq_true,decide_eq_true_eq]
 constructor
 · rintro⟨s,hs,h,hh,rfl⟩;exact⟨h,hh,hs⟩
 · rintro⟨h,hh,hl⟩;exact⟨_,hl,h,hh,rfl⟩
section
variable {f:Fr}
theorem ZaE (h:Q0 t=false):Z6 f t=((if 2000<t.length then []else Zl8 t),(if 2000<t.length then 10 else 0)):=by
 rw[Z6,if_pos (by rw[h];rfl)]
 split<;>rfl
variable (h0:Q0 t=true)
include h0
theorem ri_20 (h:(QX t).2.2=20):Z6 f t=([],20):=by rw[Z6,if_neg (by rw[h0];decide),if_pos h]
theorem ZoN (h:¬ (QX t).2.2=20):¬ Yn (isV ⟨#[41]⟩) t<0∧((QX t).2.2=0→(QX t).1=Xm t∧(QX t).2.1=(Zj (Yd t)).1)∧(¬ (QX t).2.2=21→(Zj (Yd t)).2=false):=by
 cases hp:XI t with
 | none=>rw[ZrT h0 hp]at h;exact absurd rfl h
 | some z=>
  obtain⟨rfl,_⟩:=ZhV hp
  refine⟨fun hi=>(by rw[ZgS hi]at hp;cases hp),?_⟩
  cases htw:QD (Xm t)with
  | true=>rw[Zg3 h0 hp htw]at h;exact absurd rfl h
  | false=>
   rw[Zmk h0 hp htw]
   cases hb:(Zj (Yd t)).2 with
   | true=>exact⟨fun e=>absurd e (show ¬ (21:Int)=0 by decide),fun e=>absurd rfl e⟩
   | false=>
    simp only[Bool.false_eq_true,if_false]
    refine⟨fun e=>?_,fun _=>trivial⟩
    split at e
    · cases e
    · rename_i h9;rw[if_neg h9];exact⟨rfl,rfl⟩
variable (h2:¬ (QX t).2.2=20)
include h2
theorem ri_own (h:(f.hyps.any fun h=>decide (h.label∈Xm t))=true):Z6 f t=([],20):=by rw[Z6,if_neg (by rw[h0];decide),if_neg h2,if_pos h]
variable (h3:(f.hyps.any fun h=>decide (h.label∈Xm t))=false)
include h3
theorem ri_21 (h:(QX t).2.2=21):Z6 f t=([],21):=by rw[Z6,if_neg (by rw[h0];decide),if_neg h2,if_neg (by rw[h3];decide),if_pos h]
variable (h4:¬ (QX t).2.2=21)
include h4
theorem ri_bad (h:Zek f (Xm t) (Zj (Yd t)).1 ([],[])=none):Z6 f t=([],21):=by rw[Z6,if_neg (by rw[h0];decide),if_neg h2,if_neg (by rw[h3];decide),if_neg h4,h]
theorem ri_10 {q:List Ri×List Int} (h:Zek f (Xm t) (Zj (Yd t)).1 ([],[])=some q) (h5:¬ (QX t).2.2=0):Z6 f t=([],(QX t).2.2):=by rw[Z6,if_neg (by rw[h0];decide),if_neg h2,if_neg (by rw[h3];decide),if_neg h4,h];exact if_neg h5
theorem ri_ok {q:List Ri×List Int} (h:Zek f (Xm t) (Zj (Yd t)).1 ([],[])=some q) (h5:(QX t).2.2=0):Z6 f t=(q.1,0):=by rw[Z6,if_neg (by rw[h0];decide),if_neg h2,if_neg (by rw[h3];decide),if_neg h4,h];exact if_pos h5
end
theorem Zkx (hc:Zaz d=0) (hi:i<d.frames.length):match YY (ge d.frames i) (Zam (d.frames.take i)) t with
 | .error c=>Z6 (ge d.frames i) t=([],c)∧c≠0
 | .ok xs=>∃ rs,Z6 (ge d.frames i) t=(rs,0)∧rs.length=xs.length∧∀ k,k<xs.length→Zur (ge d.frames i) (Zam (d.frames.take i)) (ZfI (xs.take k) 0) (ge xs k) (ge rs k):=by
 have hf:∀ j,j< (ge d.frames i).hyps.length→_:=fun j hj=>hyp_at (fr_lst (ZpH hc i hi)) hj
 unfold YY Z6
 cases hcm:Q0 t with
 | false=>
  rw[if_pos (show(!false)=true from rfl),if_pos (show(!false)=true from rfl)]
  by_cases h1:2000<t.length
  · rw[if_pos h1,if_pos h1]
    exact⟨rfl,by decide⟩
  · rw[if_neg h1,if_neg h1]
    refine⟨_,rfl,by simp[Zl8],fun k hk=>?_⟩
    have hk:k<t.length:=by simpa using hk
    rw[ZjC hk,Zl8,ZjC hk]
    by_cases h2:ge t k=⟨#[63]⟩
    · exact .inl ⟨by simp[h2],by rw[Zjs h2]⟩
    · exact .inr (.inl ⟨by simp[h2],rfl,h2,rfl,rfl,rfl⟩)
 | true=>
  rw[if_neg (show ¬ (!true)=true by decide),if_neg (show ¬ (!true)=true by decide)]
  cases hp:XI t with
  | none=>
   simp only
   rw[ZrT hcm hp]
   exact⟨rfl,by decide⟩
  | some z=>
   obtain⟨rfl,hl⟩:=ZhV hp
   simp only
   cases htw:QD (Xm t)with
   | true=>
    rw[Bool.true_or,if_pos rfl,Zg3 hcm hp htw]
    exact⟨rfl,by decide⟩
   | false=>
    rw[Bool.false_or,ZrI]
    have hne:(QX t).2.2≠20:=by
     rw[Zmk hcm hp htw]
     split
     · show(21:Int)≠20;decide
     split
     · show(10:Int)≠20;decide
     · show(0:Int)≠20;decide
    rw[if_neg hne]
    cases how:(ge d.frames i).hyps.any fun h=>decide (h.label∈Xm t)with
    | true=>
     rw[if_pos rfl,if_pos rfl]
     exact⟨rfl,by decide⟩
    | false=>
     rw[if_neg (show ¬ false=true by decide),if_neg (show ¬ false=true by decide)]
     cases hb:(Zj (Yd t)).2 with
     | true=>
      rw[if_pos (by rw[le_21 hcm hp htw hb])]
      cases Xb (ge d.frames i) (Zam (d.frames.take i)) (Xm t) (Zj (Yd t)).1 0 with
      | none=>exact⟨rfl,by decide⟩
      | some xs=>show(([],21):List Ri×Int)=([],21)∧(21:Int)≠0;exact⟨rfl,by decide⟩
     | false=>
      have h21:(QX t).2.2≠21:=by
       rw[Zmk hcm hp htw,hb]
       simp only[Bool.false_eq_true,if_false]
       split
       · show(10:Int)≠21;decide
       · show(0:Int)≠21;decide
      rw[if_neg h21]
      have h1:=Zo1 (M:=Zam (d.frames.take i)) hf hl (Zj (Yd t)).1 [] [] (QP _ _ 0 false nlr (Int.le_refl _)) (fun z hz=>by cases hz)
      rw[show([]:List Int).length=0 from rfl]at h1
      cases hx:Xb (ge d.frames i) (Zam (d.frames.take i)) (Xm t) (Zj (Yd t)).1 0 with
      | none=>
       rw[hx]at h1
       simp only at h1 ⊢
       rw[h1]
       exact⟨rfl,by decide⟩
      | some xs=>
       rw[hx]at h1
       obtain⟨rs,tg,h2,h3,h4⟩:=h1
       rw[List.nil_append]at h2
       have h5:=ZkE _ _ _ h2
       simp only[List.length_nil,Nat.zero_add]at h5
       simp only[h2,Bool.false_eq_true,if_false]
       by_cases h6:2000<xs.length
       · rw[if_pos h6,le_10 hcm hp htw hb (by show 2000< (Zj (Yd t)).1.length;omega)]
         exact⟨rfl,by decide⟩
       · rw[if_neg h6,le_ok hcm hp htw hb (by show ¬ 2000< (Zj (Yd t)).1.length;omega)]
         exact⟨rs,rfl,h3,fun k hk=>by simpa using h4 k hk⟩
end
def Xh (d:Db) (i:Nat) (r:Ri) (gv sk:List (List BA)):(List BA×List (List BA))×Int:=
 if r.unk then(([],[]),27)
 else if 0≤r.back then((ge gv r.back.toNat,sk),0)
 else match QF (ge d.frames i) r.label with
  | some h=>((h.text,sk),0)
  | none=>if Z9 d i r.label<0 then(([],[]),22)
   else if sk.length< (ge d.frames (Z9 d i r.label).toNat).hyps.length then(([],[]),23)
   else(((Zcj d.vars (ge d.frames i).wide (ge d.frames (Z9 d i r.label).toNat) (sk.drop (sk.length-(ge d.frames (Z9 d i r.label).toNat).hyps.length))).1,sk.take (sk.length-(ge d.frames (Z9 d i r.label).toNat).hyps.length)),
    (Zcj d.vars (ge d.frames i).wide (ge d.frames (Z9 d i r.label).toNat) (sk.drop (sk.length-(ge d.frames (Z9 d i r.label).toNat).hyps.length))).2)
section
variable {d:Db} {i:Nat} {r:Ri} {x:Itm} {gv sk tg:List (List BA)} {tgs:List Int}
theorem ZuL:(Xh d i r gv sk).1.2.length≤sk.length:=by
 unfold Xh
 split
 · exact Nat.zero_le _
 split
 · exact Nat.le_refl _
 split
 · exact Nat.le_refl _
 split
 · exact Nat.zero_le _
 split
 · exact Nat.zero_le _
 · show(sk.take _).length≤_
   rw[List.length_take]
   exact Nat.min_le_right _ _
theorem Znr (hc:Zaz d=0) (hi:i<d.frames.length) (h:Zur (ge d.frames i) (Zam (d.frames.take i)) tgs x r) (htg:tg=tgs.map fun z=>ge gv z.toNat):
 Xi d.frames d.vars (ge d.frames i) sk tg x=if(Xh d i r gv sk).2=0 then .ok ((Xh d i r gv sk).1.2++[(Xh d i r gv sk).1.1])else .error (Xh d i r gv sk).2:=by
 rcases h with⟨h1,h2⟩ | ⟨h1,h2,h3,h4,h5,h6⟩ | ⟨h1,h2,h3,h4,h5,h6⟩
 · unfold Xi Xh
   rw[h2,if_pos h1]
   rfl
 · have hs:Xh d i r gv sk=match QF (ge d.frames i) r.label with
    | some h=>((h.text,sk),0)
    | none=>if Z9 d i r.label<0 then(([],[]),22)
     else if sk.length< (ge d.frames (Z9 d i r.label).toNat).hyps.length then(([],[]),23)
     else(((Zcj d.vars (ge d.frames i).wide (ge d.frames (Z9 d i r.label).toNat) (sk.drop (sk.length-(ge d.frames (Z9 d i r.label).toNat).hyps.length))).1,sk.take (sk.length-(ge d.frames (Z9 d i r.label).toNat).hyps.length)),
      (Zcj d.vars (ge d.frames i).wide (ge d.frames (Z9 d i r.label).toNat) (sk.drop (sk.length-(ge d.frames (Z9 d i r.label).toNat).hyps.length))).2):=by
    rw[Xh,if_neg (by simp[h1]),if_neg oz]
   cases hh:QF (ge d.frames i) r.label with
   | some y=>
    rw[Zg0 h3 (by rw[hh];rfl),hh]at h4 h5
    rw[hs,hh]
    unfold Xi
    rw[h4,if_pos rfl,h5]
    rfl
   | none=>
    rw[hh]at hs
    simp only at hs
    have hm:=ZoF (s:=r.label) hc (Nat.le_of_lt hi)
    by_cases ha:Z9 d i r.label<0
    · rw[if_pos ha]at hm hs
      rw[Zjq h3 (by rw[hh];simp) (by rw[hm];simp)]at h4
      rw[hs]
      unfold Xi
      rw[h4]
      rfl
    · rw[if_neg ha]at hm hs
      rw[Zjr h3 (by rw[hh];simp) (by rw[hm];rfl)]at h4 h6
      rw[hm]at h6
      have h6:x.number=Z9 d i r.label:=h6
      unfold Xi
      rw[h4,if_neg (show ¬ (2:Int)=1 by decide),if_pos (show(2:Int)=2 from rfl),h6,Znh]
      by_cases hl:sk.length< (ge d.frames (Z9 d i r.label).toNat).hyps.length
      · rw[if_pos hl]at hs ⊢
        rw[hs]
        rfl
      · rw[if_neg hl]at hs ⊢
        rw[hs]
 · have hs:Xh d i r gv sk=((ge gv r.back.toNat,sk),0):=by rw[Xh,if_neg (by simp[h1]),if_pos h6]
   rw[hs]
   unfold Xi
   rw[h2,if_neg (show ¬ (4:Int)=1 by decide),if_neg (show ¬ (4:Int)=2 by decide),if_pos (show(4:Int)=4 from rfl),htg,ZjC oz,←h5]
   rfl
end
section
variable {fs:List Fr} {vars:List BA} {f:Fr} {xs:List Itm}
theorem X4:∀(k:Nat) (m:Ms),ZaM fs vars f xs (k+1) m=ZI fs vars f xs (ZaM fs vars f xs k m)
 | 0,_=>rfl
 | k+1,m=>X4 k (ZI fs vars f xs m)
theorem Zkt (a:Nat) (m:Ms):∀ b,ZaM fs vars f xs (a+b) m=ZaM fs vars f xs b (ZaM fs vars f xs a m)
 | 0=>rfl
 | b+1=>by rw[←Nat.add_assoc,X4,Zkt a m b,←X4]
structure Rs where
 sk:List (List BA)
 n:Nat
 kn:Bool
 v:Int×Int
instance instInhRs:Inhabited Rs:=⟨⟨[],0,false,(0,0)⟩⟩
def rsC (x:Rs):List CD:=[Ye x.sk,.lit (.int .i64 ((x.n:Nat):Int)),.lit (.bool x.kn),.lit (.int .i64 x.v.1),.lit (.int .i64 x.v.2)]
def ZfL (m:Ms):Rs:=⟨m.sk,m.n,m.kn,m.v⟩
theorem Zv5 (f:Fr) (len:Nat) (m:Ms):(ZbO f len m).tg=m.tg:=by unfold ZbO;split<;>rfl
theorem Zv6 (f:Fr) (len:Nat) (m:Ms):ZfL (ZbO f len m)=if m.n<len then⟨m.sk,m.n,m.kn,m.v⟩else⟨m.sk,m.n,true,Zde f m.sk m.n⟩:=by unfold ZbO;split<;>rfl
theorem ZgM:∀(j:Nat) (m:Ms),m.kn=true→ZfL (ZaM fs vars f xs j m)=ZfL m
 | 0,_,_=>rfl
 | j+1,m,h=>by
  have e:ZI fs vars f xs m= { m with did:=false }:=by unfold ZI;rw[if_pos h]
  show ZfL (ZaM fs vars f xs j (ZI fs vars f xs m))=_
  rw[e]
  exact ZgM j { m with did:=false } h
theorem Zc0 {a b:Nat} {m:Ms} (hab:a≤b) (h:(ZaM fs vars f xs a m).kn=true):ZfL (ZaM fs vars f xs b m)=ZfL (ZaM fs vars f xs a m):=by
 rw[show b=a+(b-a) by omega,Zkt,ZgM _ _ h]
end
structure ZqF (d:Db) (i:Nat) (t:List BA) (n:Nat) (sk gv:List (List BA)):Prop where
 le:n≤(Yi d i t).length
 st:ZfL (ZaM d.frames d.vars (ge d.frames i) (Yi d i t) n (XK d i t))=⟨sk,n,decide (n=(Yi d i t).length),if n=(Yi d i t).length then Zde (ge d.frames i) sk n else(0,0)⟩
 tg:(ZaM d.frames d.vars (ge d.frames i) (Yi d i t) n (XK d i t)).tg=(ZfI ((Yi d i t).take n) 0).map fun z=>ge gv z.toNat
 gl:gv.length=n
 inv:ZmT (Yi d i t) (ZaM d.frames d.vars (ge d.frames i) (Yi d i t) n (XK d i t))
section
variable {d:Db} {i n:Nat} {t:List BA} {sk gv:List (List BA)} {r:Ri}
theorem Zl0 (hc:Zaz d=0) (hi:i<d.frames.length) {xs:List Itm} (h:YY (ge d.frames i) (Zam (d.frames.take i)) t= .ok xs):ZqF d i t 0 [] []∧Yi d i t=xs:=by
 have hg:=XJ hc
 have h0:=ZfZ (t:=t) (Zae (Zal i (Nat.le_of_lt hi)) (Nat.le_of_lt hi)) (hg _ (Zu hi)).2.2
 have e1:Yi d i t=xs:=by rw[Yi,h];rfl
 have e2:XK d i t=ZbO (ge d.frames i) xs.length ⟨[],[],0,false,(0,0),true⟩:=by rw[XK,h];rfl
 refine⟨⟨nzl,?_,?_,rfl,h0.2⟩,e1⟩
 · show ZfL (XK d i t)=_
   rw[e1,e2]
   unfold ZbO ZfL
   by_cases hl:0<xs.length
   · rw[if_pos hl,if_neg oz,decide_eq_false oz]
   · rw[if_neg hl,if_pos oz,decide_eq_true oz]
 · show(XK d i t).tg=_
   rw[e2,List.take_zero]
   unfold ZbO
   split<;>rfl
theorem Zq2 {c:Int} (h:YY (ge d.frames i) (Zam (d.frames.take i)) t= .error c) (most:Nat):ZfL (ZaM d.frames d.vars (ge d.frames i) (Yi d i t) most (XK d i t))=⟨[],0,true,(c,0)⟩:=by
 have e:XK d i t=⟨[],[],0,true,(c,0),true⟩:=by rw[XK,h];rfl
 rw[ZgM _ _ (by rw[e]),e]
 rfl
variable (hI:ZqF d i t n sk gv) (hn:n< (Yi d i t).length)
include hI hn
theorem ZnL:∃ tg did,ZaM d.frames d.vars (ge d.frames i) (Yi d i t) n (XK d i t)=⟨sk,tg,n,false,(0,0),did⟩∧tg=(ZfI ((Yi d i t).take n) 0).map fun z=>ge gv z.toNat:=by
 have h1:=hI.st
 have h2:=hI.tg
 rw[if_neg oz,decide_eq_false oz]at h1
 generalize ZaM d.frames d.vars (ge d.frames i) (Yi d i t) n (XK d i t)=m at h1 h2
 obtain⟨a,b,c,e,v,f⟩:=m
 simp only[ZfL,Rs.mk.injEq]at h1
 obtain⟨rfl,rfl,rfl,rfl⟩:=h1
 exact⟨b,f,rfl,h2⟩
variable (hc:Zaz d=0) (hi:i<d.frames.length) (hr:Zur (ge d.frames i) (Zam (d.frames.take i)) (ZfI ((Yi d i t).take n) 0) (ge (Yi d i t) n) r)
include hc hi hr
theorem ZnI (he:¬ (Xh d i r gv sk).2=0):ZfL (ZaM d.frames d.vars (ge d.frames i) (Yi d i t) (n+1) (XK d i t))=⟨sk,n,true,((Xh d i r gv sk).2,(n:Int))⟩:=by
 obtain⟨tg,did,h1,h2⟩:=ZnL hI hn
 have h3:=Znr (sk:=sk) hc hi hr h2
 rw[if_neg he]at h3
 rw[X4,h1,ZbB rfl h3]
 rfl
theorem ZnJ (he:(Xh d i r gv sk).2=0):ZqF d i t (n+1) ((Xh d i r gv sk).1.2++[(Xh d i r gv sk).1.1]) (gv++[(Xh d i r gv sk).1.1]):=by
 obtain⟨tg,did,h1,h2⟩:=ZnL hI hn
 have h3:=Znr (sk:=sk) hc hi hr h2
 rw[if_pos he]at h3
 have hg:=XJ hc
 have h0:=ZfZ (t:=t) (Zae (Zal i (Nat.le_of_lt hi)) (Nat.le_of_lt hi)) (hg _ (Zu hi)).2.2
 have h4:=Zee (vars:=d.vars) (f:=ge d.frames i) (fun g h=>(hg g h).2.1) h0.1 hI.inv
 rw[←X4]at h4
 have hgl:=hI.gl
 have e1:ge (((Xh d i r gv sk).1.2++[(Xh d i r gv sk).1.1])) ((((Xh d i r gv sk).1.2++[(Xh d i r gv sk).1.1]).length:Int)-1).toNat=(Xh d i r gv sk).1.1:=by
  have:((((Xh d i r gv sk).1.2++[(Xh d i r gv sk).1.1]).length:Int)-1).toNat=(Xh d i r gv sk).1.2.length:=by simp
  rw[this]
  simp[ge,List.getD_eq_getElem?_getD]
 have e2:ZaM d.frames d.vars (ge d.frames i) (Yi d i t) (n+1) (XK d i t)=ZbO (ge d.frames i) (Yi d i t).length ⟨(Xh d i r gv sk).1.2++[(Xh d i r gv sk).1.1],if(ge (Yi d i t) n).tagged=true then tg++[(Xh d i r gv sk).1.1]else tg,n+1,false,(0,0),true⟩:=by
  rw[X4,h1,ZbX rfl h3,e1]
 refine⟨hn,?_,?_,by simp[hgl],h4⟩
 · rw[e2,Zv6]
   show(if n+1< (Yi d i t).length then(⟨(Xh d i r gv sk).1.2++[(Xh d i r gv sk).1.1],n+1,false,(0,0)⟩:Rs)else⟨(Xh d i r gv sk).1.2++[(Xh d i r gv sk).1.1],n+1,true,Zde (ge d.frames i) ((Xh d i r gv sk).1.2++[(Xh d i r gv sk).1.1]) (n+1)⟩)=_
   by_cases hl:n+1< (Yi d i t).length
   · rw[if_pos hl,if_neg oz,decide_eq_false oz]
   · rw[if_neg hl,if_pos oz,decide_eq_true oz]
 · have e3:(ZaM d.frames d.vars (ge d.frames i) (Yi d i t) (n+1) (XK d i t)).tg=if(ge (Yi d i t) n).tagged=true then tg++[(Xh d i r gv sk).1.1]else tg:=by
    rw[e2,Zv5]
   have e4:(ZfI ((Yi d i t).take n) 0).map (fun z=>ge (gv++[(Xh d i r gv sk).1.1]) z.toNat)=tg:=by
    rw[h2]
    refine List.map_congr_left fun z hz=>?_
    have h5:=ZgG _ _ z hz
    rw[List.length_take,Nat.min_eq_left (Nat.le_of_lt hn)]at h5
    exact Zpf oz
   have e5:ge (gv++[(Xh d i r gv sk).1.1]) n=(Xh d i r gv sk).1.1:=by
    rw[←hgl]
    simp[ge,List.getD_eq_getElem?_getD]
   rw[e3,ZZ hn,ZhG,List.map_append,e4]
   split
   · rw[List.length_take,Nat.min_eq_left (Nat.le_of_lt hn)]
     simp only[List.map_cons,List.map_nil,Int.zero_add,Int.toNat_natCast,e5]
   · simp
end
def Qm (d:Db) (i:Nat) (t:List BA) (most:Nat):Rs:=ZfL (ZaM d.frames d.vars (ge d.frames i) (Yi d i t) most (XK d i t))
section
variable {d:Db} {i n most:Nat} {t:List BA} {sk gv:List (List BA)} {r:Ri}
theorem ZnH (hI:ZqF d i t n sk gv) (hn:n< (Yi d i t).length) (h:n≤most) (h2:most≤n):Qm d i t most=⟨sk,n,false,(0,0)⟩:=by
 have:most=n:=by omega
 subst this
 have h1:=hI.st
 rw[if_neg oz,decide_eq_false oz]at h1
 exact h1
theorem Zq1 (hI:ZqF d i t n sk gv) (hn:n=(Yi d i t).length) (h:n≤most):Qm d i t most=⟨sk,n,true,Zde (ge d.frames i) sk n⟩:=by
 have h1:=hI.st
 rw[if_pos hn,decide_eq_true hn]at h1
 have h2:(ZaM d.frames d.vars (ge d.frames i) (Yi d i t) n (XK d i t)).kn=true:=congrArg Rs.kn h1
 rw[Qm,Zc0 h h2,h1]
theorem ZnG (hI:ZqF d i t n sk gv) (hn:n< (Yi d i t).length) (hc:Zaz d=0) (hi:i<d.frames.length) (hr:Zur (ge d.frames i) (Zam (d.frames.take i)) (ZfI ((Yi d i t).take n) 0) (ge (Yi d i t) n) r) (he:¬ (Xh d i r gv sk).2=0) (h:n<most):Qm d i t most=⟨sk,n,true,((Xh d i r gv sk).2,(n:Int))⟩:=by
 have h1:=ZnI hI hn hc hi hr he
 have h2:(ZaM d.frames d.vars (ge d.frames i) (Yi d i t) (n+1) (XK d i t)).kn=true:=congrArg Rs.kn h1
 rw[Qm,Zc0 h h2,h1]
theorem Zq0 (hc:Zaz d=0) (hi:i<d.frames.length) (h:(Yi d i t).length<most):(Qm d i t most).v=ZlH d.frames d.vars (ge d.frames i) (Zam (d.frames.take i)) t:=by
 have hg:=XJ hc
 have h0:=ZfZ (t:=t) (Zae (Zal i (Nat.le_of_lt hi)) (Nat.le_of_lt hi)) (hg _ (Zu hi)).2.2
 have key:∀ j,ZmT (Yi d i t) (ZaM d.frames d.vars (ge d.frames i) (Yi d i t) j (XK d i t))∧((ZaM d.frames d.vars (ge d.frames i) (Yi d i t) j (XK d i t)).kn=false→(ZaM d.frames d.vars (ge d.frames i) (Yi d i t) j (XK d i t)).n=j):=by
  intro j
  induction j with
  | zero=>exact⟨h0.2,fun _=>ZgJ⟩
  | succ j ih=>
   have h1:=Zee (vars:=d.vars) (f:=ge d.frames i) (fun g h=>(hg g h).2.1) h0.1 ih.1
   have h2:=Zdy (fs:=d.frames) (vars:=d.vars) (f:=ge d.frames i) ih.1
   rw[X4]
   refine⟨h1,fun e=>?_⟩
   rcases h2 with h2 | h2
   · rw[h2.2.1]at e;cases e
   · rw[h2.2.1,ih.2 h2.2.2.2]
 have h3:(ZaM d.frames d.vars (ge d.frames i) (Yi d i t) (Yi d i t).length (XK d i t)).kn=true:=by
  cases hk:(ZaM d.frames d.vars (ge d.frames i) (Yi d i t) (Yi d i t).length (XK d i t)).kn with
  | true=>rfl
  | false=>
   have h4:=(key (Yi d i t).length).1.kn hk
   have h5:=(key (Yi d i t).length).2 hk
   omega
 have e1:=Zc0 (b:=(Yi d i t).length+1) oz h3
 have e2:=Zc0 (b:=most) oz h3
 show(Qm d i t most).v=(ZaM d.frames d.vars (ge d.frames i) (Yi d i t) ((Yi d i t).length+1) (XK d i t)).v
 rw[Qm,e2,←e1]
 rfl
end
section
variable {d:Db} {i n most:Nat} {t:List BA} {sk gv:List (List BA)} {r:Ri}
theorem run_ok (hc:Zaz d=0) (hi:i<d.frames.length) (h:(Z6 (ge d.frames i) t).2=0):ZqF d i t 0 [] []∧(Z6 (ge d.frames i) t).1.length=(Yi d i t).length∧
 ∀ k,k< (Yi d i t).length→Zur (ge d.frames i) (Zam (d.frames.take i)) (ZfI ((Yi d i t).take k) 0) (ge (Yi d i t) k) (ge (Z6 (ge d.frames i) t).1 k):=by
 have h1:=Zkx (t:=t) hc hi
 cases hr:YY (ge d.frames i) (Zam (d.frames.take i)) t with
 | error c=>
  rw[hr]at h1
  rw[h1.1]at h
  exact absurd h h1.2
 | ok xs=>
  rw[hr]at h1
  obtain⟨rs,h2,h3,h4⟩:=h1
  obtain⟨h5,h6⟩:=Zl0 hc hi hr
  rw[h6,h2]
  exact⟨h5,h3,h4⟩
theorem ZuS (hc:Zaz d=0) (hi:i<d.frames.length) (h:¬ (Z6 (ge d.frames i) t).2=0):Qm d i t most=⟨[],0,true,((Z6 (ge d.frames i) t).2,0)⟩:=by
 have h1:=Zkx (t:=t) hc hi
 cases hr:YY (ge d.frames i) (Zam (d.frames.take i)) t with
 | error c=>
  rw[hr]at h1
  rw[Qm,Zq2 hr,h1.1]
 | ok xs=>
  rw[hr]at h1
  obtain⟨rs,h2,_⟩:=h1
  rw[h2]at h
  exact absurd rfl h
theorem ZuT (hI:ZqF d i t n sk gv):(∀ t∈sk,1≤t.length∧t.length≤2000)∧sk.length≤n:=by
 have h1:(ZaM d.frames d.vars (ge d.frames i) (Yi d i t) n (XK d i t)).sk=sk:=congrArg Rs.sk hI.st
 have h2:(ZaM d.frames d.vars (ge d.frames i) (Yi d i t) n (XK d i t)).n=n:=congrArg Rs.n hI.st
 have h3:=hI.inv.sk
 have h4:=hI.inv.skn
 rw[h1]at h3 h4
 rw[h2]at h4
 exact⟨h3,h4⟩
theorem ZnK (hI:ZqF d i t n sk gv) (hn:n< (Yi d i t).length) (hr:Zur (ge d.frames i) (Zam (d.frames.take i)) (ZfI ((Yi d i t).take n) 0) (ge (Yi d i t) n) r) (h1:r.unk=false) (h2:0≤r.back):r.back<gv.length:=by
 rcases hr with h | h | h
 · rw[h.1]at h1;cases h1
 · have:=h.2.1;omega
 · have h3:=ZgG _ _ _ (Zu (xs:=ZfI ((Yi d i t).take n) 0) (k:=(ge (Yi d i t) n).number.toNat) (by have:=h.2.2.2.1;have:=h.2.2.1;omega))
   rw[←h.2.2.2.2.1,List.length_take,Nat.min_eq_left (Nat.le_of_lt hn)]at h3
   rw[hI.gl]
   omega
theorem Zo2 (hc:Zaz d=0) (hi:i<d.frames.length):(Yi d i t).length≤2000:=
 (ZfZ (t:=t) (Zae (Zal i (Nat.le_of_lt hi)) (Nat.le_of_lt hi)) (XJ hc _ (Zu hi)).2.2).1.1
end
end Go.Proofs.YtneapgbkkkjagaaGreatDoor
set_option maxHeartbeats 8000000
set_option maxRecDepth 100000
namespace Go.Proofs.YtneapgbkkkjagaaGreatDoor
open Go.Proofs.Tryz (prog)
open Go.RowKit
section
variable {J:WP} (hJ:Stab J)
include hJ
theorem Zfv (l:List Bd) (s:BA)  :Fn prog J 149 [.rd (Zea l),.str s] (.rd (Zf (Yu (Z1 l) s))):=by
 refine fE Tryz.func149 fun S w0 hS hJ0=>?_
 refine tw ZR (ln 0 fun hl1=>?_)
 refine qso tb hJ [0,1] [_] U2 ?_
 refine Ze (qso tb hJ [0,1,1000] [_] U3 ?_)
 refine Zc (lpo (ι:=Nat) (fun k=>(k≤l.length)∧(∀ j,j<k→¬ (ge l j).var=s)) (fun _=>[]) (fun k=>[(5,.int (k:Nat))]) (fun k=>l.length-k) [0,1,2] U2 0 ⟨nzl,fun j hj=>by omega⟩ ?_)
 rintro k ⟨f1_1,f1_2⟩
 refine Ze (ZG tb hJ [0,1,2,1003] [_,_,.int (l.length:Nat),_] [2] U4 rfl ⟨Z3 ZdR,trivial⟩ ?_)
 refine cj 3 (fun hb1=>?_) fun hb1=>?_
 ·
  try simp at hb1
  refine Zb (nx (Ze (Zc (ZG tb hJ [0,1,2,1006] [_,_,.ptr (bdC (ge l k)),_,_,_,_] [2] U4 rfl ⟨iIx XD,trivial⟩ ?_))))
  refine cj 3 (fun hb2=>?_) fun hb2=>?_
  ·
   try simp at hb2
   refine ZG tb hJ [1004,1005] [_,_,.ptr (bdC (ge l k)),_,_,_] [2] U2 rfl ⟨iIx XD,trivial⟩ ?_
   refine ln 0 fun hl2=>?_
   exact tRo 1 (hE:=congrArg (fun z=>AV.rd (Zf z)) (show((ge l k).text)=(Yu (Z1 l) s)from by first | exact(Zo8 hb1 f1_2 hb2).symm | exact(Zk1 fun j hj=>f1_2 j oz).symm))
  ·
   try simp at hb2
   refine Zb (nx (Yo tb hJ [0,1,1002] [_,.int (k+1:Nat),_] [1] U3 rfl ⟨Z7,trivial⟩ ?_))
   exact YE (k+1) [0,1,2] ⟨oz,ZK f1_2 hb2⟩
 ·
  try simp at hb1
  refine Zs (nx (ZG tb hJ [1001,1002] [_,.rd (Zf ([s])),_] [1] U2 rfl ⟨fun _ _ hk hx hl _=>YC Zd ZaT rfl (hl.D 0 24 rfl rfl) (Zq hS _ hk hx _ nlr) (jo hJ hx),trivial⟩ ?_))
  refine ln 0 fun hl3=>?_
  exact tRo 1 (hE:=congrArg (fun z=>AV.rd (Zf z)) (show([s])=(Yu (Z1 l) s)from by first | exact(Zo8 hb1 f1_2 hb2).symm | exact(Zk1 fun j hj=>f1_2 j oz).symm))
theorem Zw1 (t:List BA) (l:List Bd) (hb:(XQ (Z1 l) t).length≤2000):Fn prog J 150 [.rd (Zf t),.rd (Zea l)] (.rd (Zf (XQ (Z1 l) t))):=by
 refine fE Tryz.func150 fun S w0 hS hJ0=>?_
 refine tw ZR (ln 0 fun hl1=>?_)
 refine ln 1 fun hl2=>?_
 refine qso tb hJ [0,1] [_] U2 ?_
 refine tsq (XF Zd hJ rfl rfl rfl (lb rfl) fun v1=>?_)
 refine snK 1 tb rfl (seK [0,2,3] U3 rfl ?_)
 refine nx (Ze (qso tb hJ [0,1,2,1000] [_] U4 ?_))
 refine Zc (lpo (ι:=Nat×Value×(List BA)) (fun(k,_,out)=>(k≤t.length)∧(out=XQ (Z1 l) (t.take k))) (fun(_,v,out)=>[OB.row v 9 1 (out.map Zax)]) (fun(k,v,_)=>[(6,.int (k:Nat)),(5,.lit v)]) (fun(k,_,_)=>t.length-k) [1,2,3,0] U2 (0,v1,([]:List BA)) ⟨nzl,rfl⟩ ?_)
 rintro⟨k,v,out⟩ ⟨f1_1,f1_2⟩
 refine Ze (ZG tb hJ [0,1,2,3,1003] [_,_,.int (t.length:Nat),_] [2] U5 rfl ⟨Z3 Zm,trivial⟩ ?_)
 refine cj 4 (fun hb1=>?_) fun hb1=>?_
 ·
  try simp at hb1
  refine Zb (nx (Ze (Zc (ZE (snK 4 tb rfl (sy (.ptr [lS (ge t k)]) (fun h=>ZQ (i:=(k:Int)) Zd rfl (h.get 1 rfl) (h.get 0 rfl) nnn (Z0 (xs:=t) (k:=k) sfz) rfl h.x) ?_))))))
  refine snK 1 tb rfl (sy (.rd (Zf (Yu (Z1 l) (ge t k)))) (fun h=>ZaY (Zfv hJ l (ge t k)) Zdh rfl (Zq hS _ h.keep h.x) (h.x.1) (Za (h.get 4 rfl) (Za (h.get 0 rfl) Zg)) (jo hJ h.x)) ?_)
  refine ZS (f:=Zax) (m:=6) (s:=14) out (Yu (Z1 l) (ge t k)) (fun _=>rfl) Xn hJ hJ0 rfl rfl rfl (lb rfl) rfl rfl (fun a w h=>(h.get 0 rfl)) (by have h9:=XP (Z1 l) t (k+1);rw[Y3 oz,List.length_append,←f1_2]at h9;omega) (by have h9:=XP (Z1 l) t (k+1);rw[Y3 oz,List.length_append,←f1_2]at h9;omega) fun v2=>?_
  refine snK 1 tb rfl (seK [0,2,9,10,11] U5 rfl ?_)
  refine nx (ln 1 fun hl3=>?_)
  refine Yo tb hJ [0,2,3,1002] [_,.int (k+1:Nat),_] [1] U4 rfl ⟨Z7,trivial⟩ ?_
  exact YE (k+1,v2,out++(Yu (Z1 l) (ge t k))) [1,2,3,0] ⟨oz,by rw[Y3 oz,←f1_2]⟩
 ·
  try simp at hb1
  refine Zs (nx (qso tb hJ [1001] U2 [_] ?_))
  exact tw (fun h=>ZO hS h (m:=0) (s:=4) rfl) (tRo 0 (hE:=congrArg (fun z=>AV.rd (Zf z)) (show out=(XQ (Z1 l) t)from by rw[f1_2,ZD oz])))
theorem ZmN (t:List BA) (l:List Bd) (n:Nat) (hn:n≤2000) (hl:∀ b∈l,b.text.length≤2000):Fn prog J 120 [.rd (Zf t),.rd (Zea l),.int (n:Nat)] (.tup [.rd (Zf (if ZaS (Z1 l) t n then XQ (Z1 l) t else [])),.int (if ZaS (Z1 l) t n then 0 else 15)]):=by
 refine fE Tryz.func120 fun S w0 hS hJ0=>?_
 refine tw ZR (ln 0 fun hl1=>?_)
 refine ln 1 fun hl2=>?_
 refine qso tb hJ [0,1,2] U2 U3 ?_
 refine Ze (qso tb hJ [0,1,2,1001] U2 U4 ?_)
 refine cj 3 (fun hb1=>?_) fun hb1=>?_
 ·
  try simp at hb1
  exact False.elim oz
 ·
  try simp at hb1
  refine Zb (nx (qso tb hJ [0,1,2,1000] [_] U4 ?_))
  refine Ze (qso tb hJ [0,1,2,3,1000] [_] U5 ?_)
  refine Zc (lpo (ι:=Nat×Nat) (fun(k,z)=>(k≤t.length)∧(z=(XQ (Z1 l) (t.take k)).length)∧(z≤n)) (fun(_,_)=>[]) (fun(k,z)=>[(9,.int (k:Nat)),(8,.int (z:Nat))]) (fun(k,_)=>t.length-k) [0,1,2,4,3] U3 (0,0) ⟨nzl,by simp[XQ],nzl⟩ ?_)
  rintro⟨k,z⟩ ⟨f1_1,f1_2,f1_3⟩
  refine Ze (ZG tb hJ (r5 [1003]) [_,_,.int (t.length:Nat),_] [2] U6 rfl ⟨Z3 Zm,trivial⟩ ?_)
  refine cj 5 (fun hb2=>?_) fun hb2=>?_
  ·
   try simp at hb2
   refine Zb (nx (Ze (Zc (ZG tb hJ [0,1,2,3,1006,1009] (V4 [.ptr [lS (ge t k)],_,.rd (Zf (Yu (Z1 l) (ge t k))),.int ((Yu (Z1 l) (ge t k)).length:Nat),.int (z+(Yu (Z1 l) (ge t k)).length:Nat),_]) [4,6,7,8] U6 rfl ⟨iIx Zd,iFo hS hJ (Zfv hJ l (ge t k)) Zdh,Z3 Zm,Z7 (h0:=by have:=ZcD (m:=2000) oz hl (ge t k);omega),trivial⟩ ?_))))
   refine ln 4 fun hl3=>?_
   refine qso tb hJ [0,1,2,3,5,1002] U3 U6 ?_
   refine cj 5 (fun hb3=>?_) fun hb3=>?_
   ·
    try simp at hb3
    have e3:ZaS (Z1 l) t n=false:=by have h9:=XP (Z1 l) t (k+1);rw[Y3 oz,List.length_append]at h9;simp only[ZaS,decide_eq_false_iff_not];omega
    refine qso tb hJ [1000,1001] U2 U2 ?_
    exact tw (fun h=>Yb h (m:=0) (s:=6) rfl) (ZA (fun a w h=>Y0 (m:=0) (k:=1) rfl (ZW h) rfl rfl (congrArg (fun z=>AV.rd (Zf z)) (show([]:List BA)=(if ZaS (Z1 l) t n then XQ (Z1 l) t else [])from by simp[e3])) (eI (by simp[e3]))))
   ·
    try simp at hb3
    refine Zb (nx (Yo tb hJ [0,1,2,4,1002] [_,.int (k+1:Nat),_] [1] U5 rfl ⟨Z7,trivial⟩ ?_))
    exact YE (k+1,z+(Yu (Z1 l) (ge t k)).length) [0,1,2,4,3] ⟨oz,by rw[Y3 oz,List.length_append,f1_2],oz⟩
  ·
   try simp at hb2
   have e4:ZaS (Z1 l) t n=true:=by rw[ZD (xs:=t) oz]at f1_2;simp only[ZaS,decide_eq_true_eq];omega
   refine Zs (nx (ZG tb hJ [1002,1003,1004] [_,_,.rd (Zf (XQ (Z1 l) t)),_,_] [2] U3 rfl ⟨iFo hS hJ (Zw1 hJ t l (by simp only[ZaS,decide_eq_true_eq]at e4;omega)) ZsO,trivial⟩ ?_))
   refine ln 0 fun hl4=>?_
   exact ZA (fun a w h=>Y0 (m:=1) (k:=2) rfl (ZW h) rfl rfl (congrArg (fun z=>AV.rd (Zf z)) (show(XQ (Z1 l) t)=(if ZaS (Z1 l) t n then XQ (Z1 l) t else [])from by simp[e4])) (eI (by simp[e4])))
theorem Zqg (xs ys:List BA)  :Fn prog J 46 [.rd (Zf xs),.rd (Zf ys)] (.bool (decide (xs=ys))):=by
 refine fE Tryz.func46 fun S w0 hS hJ0=>?_
 clear hJ0
 refine ln 0 fun hl1=>?_
 refine ln 1 fun hl2=>?_
 refine qs tb hJ [0,1] [_] U2 ?_
 refine Ze (hqs tb hJ [0,1,1004] [_,.int (xs.length:Nat),_,.int (ys.length:Nat),_] [1,3] U3 rfl ⟨Z3 Zm,Z3 Zm,trivial⟩ ?_)
 refine cj 2 (fun hb1=>?_) fun hb1=>?_
 ·
  try simp at hb1
  refine qs tb hJ [1000] [_] [_] ?_
  exact tRn 0 (hE:=eB (by first | rfl | grind[Zu]))
 ·
  try simp at hb1
  refine Zb (nx (Ze (qs tb hJ [0,1,1000] [_] U3 ?_)))
  refine Zc (lp (ι:=Nat) (fun k=>(k≤xs.length)∧(∀ j,j<k→ge xs j=ge ys j)) (fun k=>[(5,.int (k:Nat))]) (fun k=>xs.length-k) [0,1,2] U2 0 (show(0≤xs.length)∧(∀ j,j<0→ge xs j=ge ys j)from by first | trivial | grind) ?_)
  rintro k ⟨f1_1,f1_2⟩
  refine Ze (hqs tb hJ [0,1,2,1003] [_,_,.int (xs.length:Nat),_] [2] U4 rfl ⟨Z3 Zm,trivial⟩ ?_)
  refine cj 3 (fun hb2=>?_) fun hb2=>?_
  ·
   try simp at hb2
   refine Zb (nx (Ze (Zc (hqs tb hJ [0,1,2,1008] [_,_,.ptr [lS (ge xs k)],_,_,_,.ptr [lS (ge ys k)],_,_] [2,6] U4 rfl ⟨iIx Zd,iIx Zd,trivial⟩ ?_))))
   refine cj 3 (fun hb3=>?_) fun hb3=>?_
   ·
    try simp at hb3
    refine qs tb hJ [1000] [_] [_] ?_
    exact tRn 0 (hE:=eB (by first | rfl | grind[Zu]))
   ·
    try simp at hb3
    refine Zb (nx (hqp tb hJ [0,1,1002] [_,.int (k+1:Nat),_] [1] U3 rfl ⟨Z7,trivial⟩ ?_))
    exact lpE (k+1) [0,1,2] ⟨by first | omega | (simp;omega) | grind[Zu],by first | omega | (simp;omega) | grind[Zu]⟩
  ·
   try simp at hb2
   refine Zs (nx (qs tb hJ [1000] [_] [_] ?_))
   exact tRn 0 (hE:=eB (by have:=Za7 (xs:=xs) (ys:=ys) oz (fun j hj=>f1_2 j oz);simp[this]))
theorem ZwZ (t:List BA) (l:List Bd) (x:List BA)  :Fn prog J 119 [.rd (Zf t),.rd (Zea l),.rd (Zf x)] (.bool (Zqz t l x)):=by
 refine fE Tryz.func119 fun S w0 hS hJ0=>?_
 refine tw ZR (ln 0 fun hl1=>?_)
 refine ln 1 fun hl2=>?_
 refine ln 2 fun hl3=>?_
 refine qso tb hJ [0,1,2] [_] U3 ?_
 refine qso tb hJ [0,1,2,1000] [_] U4 ?_
 refine Ze (qso tb hJ [0,1,2,3,1000] [_] U5 ?_)
 refine Zc (lpo (ι:=Nat×Nat) (fun(k,p)=>(k≤t.length)∧(p≤x.length)∧(x.take p=XQ (Z1 l) (t.take k))) (fun(_,_)=>[]) (fun(k,p)=>[(8,.int (k:Nat)),(7,.int (p:Nat))]) (fun(k,_)=>t.length-k) [0,1,2,4,3] U3 (0,0) ⟨nzl,nzl,rfl⟩ ?_)
 rintro⟨k,p⟩ ⟨f1_1,f1_2,f1_3⟩
 refine Ze (ZG tb hJ (r5 [1003]) [_,_,.int (t.length:Nat),_] [2] U6 rfl ⟨Z3 Zm,trivial⟩ ?_)
 refine cj 5 (fun hb1=>?_) fun hb1=>?_
 ·
  try simp at hb1
  refine Zb (nx (Ze (Zc (ZG tb hJ (r5 [1005,1006]) (V3 [.ptr [lS (ge t k)],_,.rd (Zf (Yu (Z1 l) (ge t k))),_]) [3,5] U7 rfl ⟨iIx Zd,iFo hS hJ (Zfv hJ l (ge t k)) Zdh,trivial⟩ ?_))))
  refine ln 5 fun hl4=>?_
  refine Ze (ZG tb hJ (r5 [6,1018]) [_,.int ((Yu (Z1 l) (ge t k)).length:Nat),_,.int (x.length:Nat),_,.int ((x.length:Int)-(p:Int)),_,_,_,_,_,_,_,.int ((Yu (Z1 l) (ge t k)).length:Nat),.int (p+(Yu (Z1 l) (ge t k)).length:Nat),.rd (Zf ((x.take (p+(Yu (Z1 l) (ge t k)).length)).drop p)),.bool (decide ((Yu (Z1 l) (ge t k))=((x.take (p+(Yu (Z1 l) (ge t k)).length)).drop p))),_,_] [1,3,5,13,14,15,16] U7 rfl ⟨Z3 Zm,Z3 Zm,ZvR,Z3 Zm,fun _ _ _ hx hl hc=>ZeR (i:=(p:Int)) (j:=(((Yu (Z1 l) (ge t k)).length:Nat):Int)) rfl (hl.D 11 33 rfl hc) (hl.D 13 35 rfl hc) (by have hc':((decide ((x.length:Int)-(p:Int)< (((Yu (Z1 l) (ge t k)).length:Nat):Int)))==false)=true:=hc;(try simp at hc');(first | omega | (simp;omega) | grind[Zu])) (by have hc':((decide ((x.length:Int)-(p:Int)< (((Yu (Z1 l) (ge t k)).length:Nat):Int)))==false)=true:=hc;(try simp at hc');(first | omega | (simp;omega) | grind[Zu])) hx,fun _ _ _ hx hl hc=>Yy (ys:=(x.take (p+(Yu (Z1 l) (ge t k)).length)).drop p) (lo:=p) (hi:=p+(Yu (Z1 l) (ge t k)).length) rfl Zd (fun _=>rfl) rfl (hl.D 9 31 rfl hc) (hl.D 10 32 rfl hc) (hl.D 14 36 rfl hc) (by have hc':((decide ((x.length:Int)-(p:Int)< (((Yu (Z1 l) (ge t k)).length:Nat):Int)))==false)=true:=hc;(try simp at hc');(first | omega | (simp;omega) | grind[Zu])) (by have hc':((decide ((x.length:Int)-(p:Int)< (((Yu (Z1 l) (ge t k)).length:Nat):Int)))==false)=true:=hc;(try simp at hc');(first | omega | (simp;omega) | grind[Zu])) hx,iFo hS hJ (Zqg hJ (Yu (Z1 l) (ge t k)) ((x.take (p+(Yu (Z1 l) (ge t k)).length)).drop p)) Zp0,trivial⟩ ?_)
  refine cj 6 (fun hb2=>?_) fun hb2=>?_
  ·
   have e3:Zqz t l x=false:=by rw[Zqz,decide_eq_false (ZuV hb1 f1_3 f1_2 (fun h9=>by have h8:(Yu (Z1 l) (ge t k))=(x.take (p+(Yu (Z1 l) (ge t k)).length)).drop p:=h9.2.symm;simp[←h8]at hb2;omega))]
   refine qso tb hJ [1000] [_] [_] ?_
   exact tRo 0 (hE:=eB (e3.symm))
  ·
   have e4:(Yu (Z1 l) (ge t k)).length≤x.length-p∧(Yu (Z1 l) (ge t k))=(x.take (p+(Yu (Z1 l) (ge t k)).length)).drop p:=by simp only[Bool.or_eq_false_iff,decide_eq_false_iff_not,Bool.not_eq_false',decide_eq_true_eq]at hb2;exact⟨oz,hb2.2⟩
   refine Zb (nx (Yo tb hJ [0,1,2,3,1004] [_,_,.int ((Yu (Z1 l) (ge t k)).length:Nat),.int (p+(Yu (Z1 l) (ge t k)).length:Nat),_] [2,3] U5 rfl ⟨Z3 Zm,Z7,trivial⟩ ?_))
   refine nx (Yo tb hJ [0,1,2,4,1002] [_,.int (k+1:Nat),_] [1] U5 rfl ⟨Z7,trivial⟩ ?_)
   exact YE (k+1,p+(Yu (Z1 l) (ge t k)).length) [0,1,2,4,3] ⟨oz,oz,ZnN hb1 f1_3 e4.2.symm⟩
 ·
  try simp at hb1
  refine Zs (nx (ZG tb hJ [1004] [_,_,.int (x.length:Nat),_,_] [2] [_] rfl ⟨Z3 Zm,trivial⟩ ?_))
  exact tRo 0 (hE:=eB (by rw[Zqz,Zq4 (by rw[f1_3,ZD oz]) f1_2]))
theorem Zum (xs:List BA) (s:BA)  :Fn prog J 195 [.rd (Zf xs),.str s] (.bool (decide (s∈xs))):=by
 refine fE Tryz.func195 fun S w0 hS hJ0=>?_
 clear hJ0
 refine ln 0 fun hl1=>?_
 refine qs tb hJ [0,1] [_] U2 ?_
 refine Ze (qs tb hJ [0,1,1000] [_] U3 ?_)
 refine Zc (lp (ι:=Nat) (fun k=>(k≤xs.length)∧(∀ j,j<k→ge xs j≠s)) (fun k=>[(5,.int (k:Nat))]) (fun k=>xs.length-k) [0,1,2] U2 0 (show(0≤xs.length)∧(∀ j,j<0→ge xs j≠s)from by first | trivial | grind) ?_)
 rintro k ⟨f1_1,f1_2⟩
 refine Ze (hqs tb hJ [0,1,2,1003] [_,_,.int (xs.length:Nat),_] [2] U4 rfl ⟨Z3 Zm,trivial⟩ ?_)
 refine cj 3 (fun hb1=>?_) fun hb1=>?_
 ·
  try simp at hb1
  refine Zb (nx (Ze (Zc (hqs tb hJ [0,1,2,1005] [_,_,.ptr [lS (ge xs k)],_,_,_] [2] U4 rfl ⟨iIx Zd,trivial⟩ ?_))))
  refine cj 3 (fun hb2=>?_) fun hb2=>?_
  ·
   try simp at hb2
   refine qs tb hJ [1000] [_] [_] ?_
   exact tRn 0 (hE:=eB (by grind[Zu]))
  ·
   try simp at hb2
   refine Zb (nx (hqp tb hJ [0,1,1002] [_,.int (k+1:Nat),_] [1] U3 rfl ⟨Z7,trivial⟩ ?_))
   exact lpE (k+1) [0,1,2] ⟨by first | omega | (simp;omega) | grind[Zu],by first | omega | (simp;omega) | grind[Zu]⟩
 ·
  try simp at hb1
  refine Zs (nx (qs tb hJ [1000] [_] [_] ?_))
  exact tRn 0 (hE:=eB (by grind[Xp]))
theorem Zul (t vs:List BA) (hb:t.length≤2000):Fn prog J 175 [.rd (Zf t),.rd (Zf vs)] (.rd (Zf (QB t vs))):=by
 refine fE Tryz.func175 fun S w0 hS hJ0=>?_
 refine tw ZR (ln 0 fun hl1=>?_)
 refine ln 1 fun hl2=>?_
 refine qso tb hJ [0,1] [_] U2 ?_
 refine tsq (XF Zd hJ rfl rfl rfl (lb rfl) fun v1=>?_)
 refine snK 1 tb rfl (seK [0,2,3] U3 rfl ?_)
 refine nx (Ze (qso tb hJ [0,1,2,1000] [_] U4 ?_))
 refine Zc (lpo (ι:=Nat×Value×(List BA)) (fun(k,_,out)=>(k≤t.length)∧(out=QB (t.take k) vs)∧(out.length≤k)) (fun(_,v,out)=>[OB.row v 9 1 (out.map Zax)]) (fun(k,v,_)=>[(6,.int (k:Nat)),(5,.lit v)]) (fun(k,_,_)=>t.length-k) [1,2,3,0] U2 (0,v1,([]:List BA)) ⟨nzl,rfl,Nat.le_refl _⟩ ?_)
 rintro⟨k,v,out⟩ ⟨f1_1,f1_2,f1_3⟩
 refine Ze (ZG tb hJ [0,1,2,3,1003] [_,_,.int (t.length:Nat),_] [2] U5 rfl ⟨Z3 Zm,trivial⟩ ?_)
 refine cj 4 (fun hb1=>?_) fun hb1=>?_
 ·
  try simp at hb1
  refine Zb (nx (Ze (Zc (ZmW tb hJ [0,1,2,3,1014] (V3 [.ptr [lS (ge t k)],_,.bool (decide ((ge t k)∈vs)),_,_,_,_,.ptr [lS (ge t k)],_,.bool (decide ((ge t k)∈out)),_,_]) [3,5,10,12] U5 rfl ⟨iIx Zd,iFr hS hJ (Zum hJ vs (ge t k)) Zln,gIx Zd (hk:=fun(hc':((decide ((ge t k)∈vs))==true)=true)=>by(try simp at hc');first | omega | (simp;omega) | grind[Zu]),fun _ _ hk hx hl hc=>ZaY (Zum hJ out (ge t k)) Zln rfl (nm hS hk) (hx.1) (Za (Qa hS hx (mo 0 rfl) (hl.D 7 21 rfl hc)) (Za (hl.D 11 25 rfl hc) Zg)) (jo hJ hx),trivial⟩ ?_))))
  refine cj 4 (fun hb2=>?_) fun hb2=>?_
  ·
   try simp at hb2
   refine ZE (snK 3 tb rfl (sy (.ptr [lS (ge t k)]) (fun h=>ZQ (i:=(k:Int)) Zd rfl (h.get 1 rfl) (h.get 0 rfl) nnn (Z0 (xs:=t) (k:=k) sfz) rfl h.x) ?_))
   refine snK 1 tb rfl (sy (.rd (Zf ([(ge t k)]))) (fun h=>YC Zd ZaT rfl (h.get 0 rfl) (Zq hS _ h.keep h.x _ nlr) (jo hJ h.x)) ?_)
   refine ZS (f:=Zax) (m:=5) (s:=29) out ([(ge t k)]) (fun _=>rfl) Xn hJ hJ0 rfl rfl rfl (lb rfl) rfl rfl (fun a w h=>(h.get 0 rfl)) sfz sfz fun v2=>?_
   refine snK 1 tb rfl (seK [0,2,8,9,10] U5 rfl ?_)
   refine nx (ln 1 fun hl3=>?_)
   refine Yo tb hJ [0,2,3,1002] [_,.int (k+1:Nat),_] [1] U4 rfl ⟨Z7,trivial⟩ ?_
   exact YE (k+1,v2,out++([(ge t k)])) [1,2,3,0] ⟨oz,by rw[Zc5 oz,←f1_2];simp_all[Zih],by simp;omega⟩
  ·
   try simp at hb2
   refine Zb (nx (Yo tb hJ [0,1,3,1002] [_,.int (k+1:Nat),_] [1] U4 rfl ⟨Z7,trivial⟩ ?_))
   exact YE (k+1,v,out) [0,1,3,2] ⟨oz,by rw[Zc5 oz,←f1_2];simp[Zih];grind,oz⟩
 ·
  try simp at hb1
  refine Zs (nx (qso tb hJ [1001] U2 [_] ?_))
  exact tw (fun h=>ZO hS h (m:=0) (s:=4) rfl) (tRo 0 (hE:=congrArg (fun z=>AV.rd (Zf z)) (show out=(QB t vs)from by rw[f1_2,ZD oz])))
theorem Zqc (pa pb:BA)  :Fn prog J 176 [.str pa,.str pb] (.agg (prC (QN ⟨pa,pb⟩))):=by
 refine fE Tryz.func176 fun S w0 hS hJ0=>?_
 refine tw ZR (tsq ?_)
 refine ZT XL hJ rfl rfl rfl (lb rfl) fun b1=>?_
 refine seK [0,1,2] U3 rfl (nx (Ze (qso tb hJ [0,1,2,1002] U3 U4 ?_)))
 refine cj 3 (fun hb1=>?_) fun hb1=>?_
 ·
  try simp at hb1
  refine tsq (snK 2 tb rfl (sq (.agg (prC (⟨pb,pa⟩:Pr))) rfl rfl (lb rfl) (fun a _ h=>Xe (us:=[a.eval (.tmp 8),a.eval (.tmp 9)]) ZcI rfl yz (Zi (h.get 1 rfl) (Zi (h.get 0 rfl) ZJ)) rfl h.x) ?_))
  refine ZB (b:=b1) (off:=0) (es:=U2) (news:=U2) hJ hJ0 YK rfl rfl rfl (lb rfl) rfl (fun a w h=>⟨(h.get 3 rfl),(h.get 0 rfl)⟩) ?_
  exact seK [3] [_] rfl (nx (ZA (fun a w h=>Xx (m:=0) rfl YR h rfl rfl (show(_:List CD)=[lS ((QN ⟨pa,pb⟩).a),lS ((QN ⟨pa,pb⟩).b)]from by(simp[QN,hb1])<;>rfl))))
 ·
  try simp at hb1
  refine Zb (nx (tsq (snK 2 tb rfl (sq (.agg (prC (⟨pa,pb⟩:Pr))) rfl rfl (lb rfl) (fun a _ h=>Xe (us:=[a.eval (.tmp 11),a.eval (.tmp 12)]) ZcI rfl yz (Zi (h.get 1 rfl) (Zi (h.get 0 rfl) ZJ)) rfl h.x) ?_))))
  refine ZB (b:=b1) (off:=0) (es:=U2) (news:=U2) hJ hJ0 YK rfl rfl rfl (lb rfl) rfl (fun a w h=>⟨(h.get 3 rfl),(h.get 0 rfl)⟩) ?_
  exact seK [3] [_] rfl (nx (ZA (fun a w h=>Xx (m:=0) rfl YR h rfl rfl (show(_:List CD)=[lS ((QN ⟨pa,pb⟩).a),lS ((QN ⟨pa,pb⟩).b)]from by(simp[QN,hb1])<;>rfl))))
theorem ZmL (l:List Bd) (ap:List Pr) (us:List BA) (hap:ap.length≤100000) (hl:∀ b∈l,b.text.length≤2000):Fn prog J 151 [.rd (Zea l),.rd (YV ap),.rd (Zf us)] (.rd (YV (Zcm l ap us))):=by
 refine fE Tryz.func151 fun S w0 hS hJ0=>?_
 refine tw ZR (ln 0 fun hl1=>?_)
 refine ln 1 fun hl2=>?_
 refine ln 2 fun hl3=>?_
 refine qso tb hJ [0,1,2] [_] U3 ?_
 refine tsq (XF Zt hJ rfl rfl rfl (lb rfl) fun v1=>?_)
 refine snK 1 tb rfl (seK [0,2,3,4] U4 rfl ?_)
 refine nx (Ze (qso tb hJ [0,1,2,3,1000] [_] U5 ?_))
 refine Zc (lpo (ι:=Nat×Value×(List Pr)) (fun(k,_,out)=>(k≤ap.length)∧(out=(ap.take k).flatMap (rqA l us))∧(out.length≤4000000*k)) (fun(_,v,out)=>[OB.row v 104 2 (out.map prC)]) (fun(k,v,_)=>[(8,.int (k:Nat)),(7,.lit v)]) (fun(k,_,_)=>ap.length-k) [1,2,3,4,0] U3 (0,v1,([]:List Pr)) ⟨nzl,rfl,by simp⟩ ?_)
 rintro⟨k,v,out⟩ ⟨f1_1,f1_2,f1_3⟩
 refine Ze (ZG tb hJ (r5 [1003]) [_,_,.int (ap.length:Nat),_] [2] U6 rfl ⟨Z3 ZL,trivial⟩ ?_)
 refine cj 5 (fun hb1=>?_) fun hb1=>?_
 ·
  try simp at hb1
  have ea:=ZkO (us:=us) (s:=(ge ap k).a) hl
  have eb:=ZkO (us:=us) (s:=(ge ap k).b) hl
  refine Zb (nx (Ze (Zc (Ze (Yo tb hJ (r5 [1006,1008,1009]) (V3 [.ptr (prC (ge ap k)),_,_,.rd (Zf (Yu (Z1 l) ((ge ap k).a))),_,.rd (Zf (QB (Yu (Z1 l) ((ge ap k).a)) us)),_]) [3,6,8] U8 rfl ⟨iIx Zt,iFo hS hJ (Zfv hJ l ((ge ap k).a)) Zdh,iFo hS hJ (Zul hJ (Yu (Z1 l) ((ge ap k).a)) us (ZcD (m:=2000) oz hl _)) Zlu,trivial⟩ ?_)))))
  refine kw (sa 7 rfl (show(.rd (Zf (QB (Yu (Z1 l) ((ge ap k).a)) us)):AV)= .rd (Zf (Zac l us (ge ap k).a))from by rw[ZoD])) (nx (ln 5 fun hl4=>?_))
  refine ln 6 fun hl5=>?_
  refine ln 7 fun hl6=>?_
  refine Ze (Yo tb hJ (r5 [7,1006,1008,1009]) (V3 [.ptr (prC (ge ap k)),_,_,.rd (Zf (Yu (Z1 l) ((ge ap k).b))),_,.rd (Zf (QB (Yu (Z1 l) ((ge ap k).b)) us)),_]) [3,6,8] U9 rfl ⟨iIx Zt,iFo hS hJ (Zfv hJ l ((ge ap k).b)) Zdh,iFo hS hJ (Zul hJ (Yu (Z1 l) ((ge ap k).b)) us (ZcD (m:=2000) oz hl _)) Zlu,trivial⟩ ?_)
  refine kw (sa 8 rfl (show(.rd (Zf (QB (Yu (Z1 l) ((ge ap k).b)) us)):AV)= .rd (Zf (Zac l us (ge ap k).b))from by rw[ZoD])) (nx (ln 6 fun hl7=>?_))
  refine ln 7 fun hl8=>?_
  refine ln 8 fun hl9=>?_
  refine qso tb hJ (r6 [8,1000]) [_] U8 ?_
  refine Zc (lpo (ι:=Nat×Value×(List Pr)) (fun(j,_,out2)=>(j≤(Zac l us (ge ap k).a).length)∧(out2=(ap.take k).flatMap (rqA l us)++((Zac l us (ge ap k).a).take j).flatMap (rqB l us (ge ap k)))∧(out2.length≤4000000*k+2000*j)) (fun(_,v2,out2)=>[OB.row v2 104 2 (out2.map prC)]) (fun(j,v2,_)=>[(11,.int (j:Nat)),(7,.lit v2)]) (fun(j,_,_)=>(Zac l us (ge ap k).a).length-j) [0,1,2,3,5,6,7,4] U6 (0,v,out) ⟨nzl,by simp only[List.take_zero,List.flatMap_nil,List.append_nil];exact f1_2,oz⟩ ?_)
  rintro⟨j,v2,out2⟩ ⟨f2_1,f2_2,f2_3⟩
  refine Ze (ZG tb hJ (r8 [1003]) [_,_,.int ((Zac l us (ge ap k).a).length:Nat),_] [2] U9 rfl ⟨Z3 Zm,trivial⟩ ?_)
  refine cj 8 (fun hb2=>?_) fun hb2=>?_
  ·
   try simp at hb2
   refine Zb (nx (Ze (Zc (qso tb hJ (r8 [1000]) [_] U9 ?_))))
   refine Zc (lpo (ι:=Nat×Value×(List Pr)) (fun(i,_,out3)=>(i≤(Zac l us (ge ap k).b).length)∧(out3=(ap.take k).flatMap (rqA l us)++((Zac l us (ge ap k).a).take j).flatMap (rqB l us (ge ap k))++((Zac l us (ge ap k).b).take i).map (fun y=>QN ⟨ge (Zac l us (ge ap k).a) j,y⟩))∧(out3.length≤4000000*k+2000*j+i)) (fun(_,v3,out3)=>[OB.row v3 104 2 (out3.map prC)]) (fun(i,v3,_)=>[(12,.int (i:Nat)),(7,.lit v3)]) (fun(i,_,_)=>(Zac l us (ge ap k).b).length-i) (r7 [8,7]) U7 (0,v2,out2) ⟨nzl,by simp only[List.take_zero,List.map_nil,List.append_nil];exact f2_2,oz⟩ ?_)
   rintro⟨i,v3,out3⟩ ⟨f3_1,f3_2,f3_3⟩
   refine Ze (ZG tb hJ [0,1,2,3,4,5,6,7,8,1003] [_,_,.int ((Zac l us (ge ap k).b).length:Nat),_] [2] U10 rfl ⟨Z3 Zm,trivial⟩ ?_)
   refine cj 9 (fun hb3=>?_) fun hb3=>?_
   ·
    try simp at hb3
    refine Zb (nx (Ze (Zc (fun a w h=>X5 [] (γ:=Value) (fun ix'=>([.lit v3,.rd (Zf (Zac l us (ge ap k).a)),.int (j:Nat),.ptr [lS (ge (Zac l us (ge ap k).a) j)],.str (ge (Zac l us (ge ap k).a) j),.rd (Zf (Zac l us (ge ap k).b)),.int (i:Nat),.ptr [lS (ge (Zac l us (ge ap k).b) i)],.str (ge (Zac l us (ge ap k).b) i),.agg (prC (QN ⟨(ge (Zac l us (ge ap k).a) j),(ge (Zac l us (ge ap k).b) i)⟩)),.rd (YV ([(QN ⟨(ge (Zac l us (ge ap k).a) j),(ge (Zac l us (ge ap k).b) i)⟩)])),.any,.any]:List AV).getD ix' .any) (fun _=>true) [(0,fun _=>.rd (Zea l)),(1,fun _=>.rd (YV ap)),(2,fun _=>.rd (Zf us)),(8,fun _=>.int (k:Nat)),(9,fun _=>.rd (Zf (Zac l us (ge ap k).a))),(10,fun _=>.rd (Zf (Zac l us (ge ap k).b))),(11,fun _=>.int (j:Nat)),(12,fun _=>.int (i:Nat)),(7,fun g=>.lit g)] (fun j' g=>match j' with | 0=>[OB.row v3 104 2 (out3.map prC)] | _=>[OB.row g 104 2 ((out3++([(QN ⟨(ge (Zac l us (ge ap k).a) j),(ge (Zac l us (ge ap k).b) i)⟩)])).map prC)]) (fun k' g=>match k' with | 0=>g | 1=>g | _=>undef) [11,12] 2 (.slice none 0 0) (fun _=>rfl) h hJ Yr rfl rfl rfl rfl rfl rfl hsb ⟨?_,?_,?_,?_,?_,?_,?_,?_,?_,?_,?_,?_,?_,trivial⟩ ⟨?e13_1_0,?e13_1_1,trivial⟩ ⟨.old 0 0 _,.old 1 1 _,.old 2 2 _,.old 3 8 _,.old 4 9 _,.old 5 10 _,.old 6 11 _,.old 7 12 _,.eff 1 12 7 (fun(g:Value)=>g) rfl rfl (fun _=>rfl) (fun _ _ hx=>Zah (hx.2.1 _ (mo 0 rfl))),trivial⟩ ?n13_1))))
    exact oX rfl fun hx hl=>Z2 rfl (hl.env 8 7 _ rfl rfl) hx
    exact oX rfl fun hx hl=>Z2 rfl (hl.env 4 9 _ rfl rfl) hx
    exact oX rfl fun hx hl=>Z2 rfl (hl.env 6 11 _ rfl rfl) hx
    exact fun _ O' _=>⟨rfl,fun a _ _ hx hl _=>ZQ (i:=(j:Int)) Zd rfl (hl.D 1 51 rfl rfl) (hl.D 2 52 rfl rfl) nnn (Z0 (xs:=(Zac l us (ge ap k).a)) (k:=j) sfz) rfl hx⟩
    exact oX rfl fun hx hl=>ZH QU rfl (hl.D 3 53 rfl rfl) hx
    exact oX rfl fun hx hl=>Z2 rfl (hl.env 5 10 _ rfl rfl) hx
    exact oX rfl fun hx hl=>Z2 rfl (hl.env 7 12 _ rfl rfl) hx
    exact oX rfl fun hx hl=>ZQ (i:=(i:Int)) Zd rfl (hl.D 5 55 rfl rfl) (hl.D 6 56 rfl rfl) nnn (Z0 (xs:=(Zac l us (ge ap k).b)) (k:=i) sfz) rfl hx
    exact oX rfl fun hx hl=>ZH QU rfl (hl.D 7 57 rfl rfl) hx
    exact fun _ O' _=>⟨rfl,fun a _ hk hx hl _=>ZaY (Zqc hJ (ge (Zac l us (ge ap k).a) j) (ge (Zac l us (ge ap k).b) i)) Zlt rfl (Zq hS _ hk hx) (hx.1) (Za (hl.D 4 54 rfl rfl) (Za (hl.D 8 58 rfl rfl) Zg)) (jo hJ hx)⟩
    exact oY rfl fun hk hx hl=>Xw Zt Zgx dz rfl rfl (hl.D 9 59 rfl rfl) (Zq hS _ hk hx _ nlr) (jo hJ hx)
    exact Zl rfl
    exact Zl rfl
    case e13_1_0=>exact⟨_,rfl,rfl,rfl,rfl,fun _ a w hk hx hl _=>Zx (Qw (f:=prC) out3 ([(QN ⟨(ge (Zac l us (ge ap k).a) j),(ge (Zac l us (ge ap k).b) i)⟩)]) (fun _=>rfl) Zch hJ hJ0 rfl hk hx (hl.D 0 50 rfl rfl).lit (hl.D 10 60 rfl rfl) (by simp;omega) (by simp;omega)) fun v w' hp=>⟨v,rfl,fun k' hk'=>absurd hk' (Nat.not_lt_zero _),fun _=>rfl,hp⟩⟩
    case e13_1_1=>exact⟨_,rfl,rfl,rfl,rfl,fun g _ w hk hx _ hs=>Zx (Zbn (.inl rfl) (hs 0 11 _ 61 oz rfl rfl rfl) hk hx) fun v w' hp=>⟨g,rfl,fun _ _=>rfl,fun _=>hp.1,hp.2⟩⟩
    clear a w h
    intro v2
    dsimp only[List.map]
    refine nx (ln 4 fun hl10=>?_)
    refine ln 5 fun hl11=>?_
    refine Yo tb hJ (r7 [8,1002]) [_,.int (i+1:Nat),_] [1] U9 rfl ⟨Z7,trivial⟩ ?_
    exact YE (i+1,v2,out3++([(QN ⟨(ge (Zac l us (ge ap k).a) j),(ge (Zac l us (ge ap k).b) i)⟩)])) (r7 [8,7]) ⟨oz,by rw[Q7 oz,←List.append_assoc,←f3_2],by simp;omega⟩
   ·
    try simp at hb3
    refine Zs (nx (Yo tb hJ (r6 [8,1002]) [_,.int (j+1:Nat),_] [1] U8 rfl ⟨Z7,trivial⟩ ?_))
    exact YE (j+1,v3,out3) (r6 [7,6]) ⟨oz,by rw[Zfd oz,←List.append_assoc,←f2_2,f3_2,ZD (xs:=(Zac l us (ge ap k).b)) oz,←f2_2];rfl,oz⟩
  ·
   try simp at hb2
   refine Zs (nx (Yo tb hJ [0,1,2,7,1002] [_,.int (k+1:Nat),_] [1] U5 rfl ⟨Z7,trivial⟩ ?_))
   exact YE (k+1,v2,out2) [0,1,2,4,3] ⟨oz,by rw[Zfd oz,←f1_2,f2_2,ZD (xs:=(Zac l us (ge ap k).a)) oz,←f1_2];rfl,oz⟩
 ·
  try simp at hb1
  refine Zs (nx (qso tb hJ [1001] U2 [_] ?_))
  exact tw (fun h=>ZO hS h (m:=0) (s:=6) rfl) (tRo 0 (hE:=congrArg (fun z=>AV.rd (YV z)) (show out=(Zcm l ap us)from by rw[f1_2,ZD oz,ZnO])))
theorem Zqe (wd:List Pr) (x:Pr)  :Fn prog J 152 [.rd (YV wd),.agg (prC x)] (.bool (decide (x∈wd.map QN))):=by
 refine fE Tryz.func152 fun S w0 hS hJ0=>?_
 refine tw ZR (ln 0 fun hl1=>?_)
 refine ZG tb hJ [0,1000] [.ptr (prC x),_] [0] U2 rfl ⟨iBo hS hJ,trivial⟩ ?_
 refine Ze (qso tb hJ [0,1,1000] [_] U3 ?_)
 refine Zc (lpo (ι:=Nat) (fun k=>(k≤wd.length)∧(∀ j,j<k→¬ QN (ge wd j)=x)) (fun _=>[]) (fun k=>[(5,.int (k:Nat))]) (fun k=>wd.length-k) [0,1,2] U2 0 ⟨nzl,fun j hj=>by omega⟩ ?_)
 rintro k ⟨f1_1,f1_2⟩
 refine Ze (ZG tb hJ [0,1,2,1003] [_,_,.int (wd.length:Nat),_] [2] U4 rfl ⟨Z3 ZL,trivial⟩ ?_)
 refine cj 3 (fun hb1=>?_) fun hb1=>?_
 ·
  try simp at hb1
  refine Zb (nx (Ze (Zc (ZG tb hJ [0,1,2,1012] [_,_,.ptr (prC (ge wd k)),_,_,_,_,.ptr (prC (ge wd k)),_,_,.agg (prC (QN ⟨((ge wd k).a),((ge wd k).b)⟩)),_,.bool (decide ((QN ⟨((ge wd k).a),((ge wd k).b)⟩).a=x.a)&&decide ((QN ⟨((ge wd k).a),((ge wd k).b)⟩).b=x.b))] [2,7,10,12] U4 rfl ⟨iIx Zt,iIx Zt,iFo hS hJ (Zqc hJ ((ge wd k).a) ((ge wd k).b)) Zlt,fun _ _ _ hx hl _=>Zn0 Zgj rfl (hl.D 10 22 rfl rfl) (hl.D 11 23 rfl rfl) hx,trivial⟩ ?_))))
  refine cj 3 (fun hb2=>?_) fun hb2=>?_
  ·
   try simp at hb2
   refine qso tb hJ [1000] [_] [_] ?_
   exact tRo 0 (hE:=eB (by rw[decide_eq_true (Zu6 hb1 (prEq_iff.1 (by simpa [ZfF]using hb2)))]))
  ·
   try simp at hb2
   refine Zb (nx (Yo tb hJ [0,1,1002] [_,.int (k+1:Nat),_] [1] U3 rfl ⟨Z7,trivial⟩ ?_))
   exact YE (k+1) [0,1,2] ⟨oz,ZK f1_2 (fun e=>by simp[e]at hb2)⟩
 ·
  try simp at hb1
  refine Zs (nx (qso tb hJ [1000] [_] [_] ?_))
  exact tRo 0 (hE:=eB (by rw[decide_eq_false (Zrq fun j hj=>f1_2 j oz)]))
theorem Zqk (l:List Bd) (ap:List Pr) (us:List BA) (wd:List Pr) (hap:ap.length≤100000) (hl:∀ b∈l,b.text.length≤2000):Fn prog J 121 [.rd (Zea l),.rd (YV ap),.rd (Zf us),.rd (YV wd)] (.tup [.agg (prC (Zes l ap us wd)),.bool (Zd9 l ap us wd)]):=by
 refine fE Tryz.func121 fun S w0 hS hJ0=>?_
 refine tw ZR (ln 0 fun hl1=>?_)
 refine ln 1 fun hl2=>?_
 refine ln 2 fun hl3=>?_
 refine ln 3 fun hl4=>?_
 refine tsq (ZT XL hJ rfl rfl rfl (lb rfl) fun b1=>?_)
 refine snK 1 tb rfl (seK [1,2,3,4,5] U5 rfl ?_)
 refine nx (ZG tb hJ [0,4,1003,1004] (V3 [.rd (YV (Zcm l ap us)),_]) [3] U4 rfl ⟨iFo hS hJ (ZmL hJ l ap us sfz sfz) ZsN,trivial⟩ ?_)
 refine ln 2 fun hl5=>?_
 refine Ze (qso tb hJ [0,1,3,1000] [_] U4 ?_)
 refine Zc (lpo (ι:=Nat) (fun k=>(k≤(Zcm l ap us).length)∧(∀ j,j<k→Zfy wd (ge (Zcm l ap us) j)=false)) (fun _=>[OB.var b1 [lS (⟨#[]⟩:BA),lS (⟨#[]⟩:BA)]]) (fun k=>[(11,.int (k:Nat))]) (fun k=>(Zcm l ap us).length-k) [0,1,2,3] U3 0 ⟨nzl,fun j hj=>by omega⟩ ?_)
 rintro k ⟨f1_1,f1_2⟩
 refine Ze (ZG tb hJ [0,1,2,3,1003] [_,_,.int ((Zcm l ap us).length:Nat),_] [2] U5 rfl ⟨Z3 ZL,trivial⟩ ?_)
 refine cj 4 (fun hb1=>?_) fun hb1=>?_
 ·
  try simp at hb1
  refine Zb (nx (Ze (Zc (ZG tb hJ [0,1,2,3,1019] [_,_,.ptr (prC (ge (Zcm l ap us) k)),_,_,_,_,.ptr (prC (ge (Zcm l ap us) k)),_,_,_,_,_,_,_,.ptr (prC (ge (Zcm l ap us) k)),_,.bool (decide ((ge (Zcm l ap us) k)∈wd.map QN)),_,_] [2,7,15,17] U5 rfl ⟨iIx Zt,iIx Zt,gIx Zt (hk:=fun(hc':((decide (((ge (Zcm l ap us) k).a)=((ge (Zcm l ap us) k).b)))==false)=true)=>by(try simp at hc');first | omega | (simp;omega) | grind[Zu]),iFo hS hJ (Zqe hJ wd (ge (Zcm l ap us) k)) ZsM,trivial⟩ ?_))))
  refine cj 4 (fun hb2=>?_) fun hb2=>?_
  ·
   have e3:Zj4 l ap us wd=some (ge (Zcm l ap us) k):=brk_at hb1 f1_2 (by rw[←hb2,Zfy,Bool.or_comm])
   refine tsq (snK 2 tb rfl (sy (.ptr (prC (ge (Zcm l ap us) k))) (fun h=>ZQ (i:=(k:Int)) Zt rfl (h.get 1 rfl) (h.get 0 rfl) nnn (Z0 (xs:=(Zcm l ap us)) (k:=k) sfz) rfl h.x) ?_))
   refine snK 1 tb rfl (ZB (b:=b1) (off:=0) (es:=U2) (news:=U2) hJ hJ0 YK rfl rfl rfl (lb rfl) rfl (fun a w h=>⟨(h.get 4 rfl),(h.get 0 rfl)⟩) ?_)
   refine snK 1 tb rfl (seK [0,5] U2 rfl ?_)
   exact nx (ZA (fun a w h=>Zan (m:=1) (q:=0) rfl YR h rfl rfl (show(_:List CD)=[lS ((Zes l ap us wd).a),lS ((Zes l ap us wd).b)]from by(simp[Zes, *])<;>rfl) rfl (eB (by simp[Zd9, *]))))
  ·
   have e4:Zfy wd (ge (Zcm l ap us) k)=false:=by rw[←hb2,Zfy,Bool.or_comm]
   refine Zb (nx (Yo tb hJ [0,1,2,1002] [_,.int (k+1:Nat),_] [1] U4 rfl ⟨Z7,trivial⟩ ?_))
   exact YE (k+1) [0,1,2,3] ⟨oz,ZK f1_2 e4⟩
 ·
  try simp at hb1
  have e5:Zj4 l ap us wd=none:=Zw3 fun j hj=>f1_2 j oz
  refine Zs (nx (tsq (sy (.agg (prC (⟨⟨#[]⟩,⟨#[]⟩⟩:Pr))) (fun h=>Yh (ps:=[]) (us:=[.string ⟨#[]⟩,.string ⟨#[]⟩]) Zgq rfl yz ZcJ rfl (Ys (.lit _ nzl) (Ys (.lit _ nzl) ZJ)) h.x) ?_)))
  refine ZB (b:=b1) (off:=0) (es:=U2) (news:=U2) hJ hJ0 YK rfl rfl rfl (lb rfl) rfl (fun a w h=>⟨(h.get 1 rfl),(h.get 0 rfl)⟩) ?_
  refine snK 1 tb rfl (seK [0,2] U2 rfl ?_)
  exact nx (ZA (fun a w h=>Zan (m:=1) (q:=0) rfl YR h rfl rfl (show(_:List CD)=[lS ((Zes l ap us wd).a),lS ((Zes l ap us wd).b)]from by(simp[Zes, *])<;>rfl) rfl (eB (by simp[Zd9, *]))))
end
end Go.Proofs.YtneapgbkkkjagaaGreatDoor
namespace Go.Proofs.YtneapgbkkkjagaaGreatDoor
open Go.RowKit
theorem Zn7:∀(r:List Value) (s off:Nat) (pre old post:List Value),pre.length=off+s→old.length=r.length→
 (r.zipIdx s).foldl (fun(cs:Array Value) (x:Value×Nat)=>cs.setIfInBounds (off+x.2) x.1) (pre++old++post).toArray=(pre++r++post).toArray
 | [],s,off,pre,old,post,_,h2=>by
  have:old=[]:=List.length_eq_zero_iff.1 (by simpa using h2)
  subst this
  rfl
 | v::r,s,off,pre,old,post,h1,h2=>by
  match old,h2 with
  | u::old,h2=>
   rw[List.zipIdx_cons,List.foldl_cons]
   have e:((pre++u::old++post).toArray.setIfInBounds (off+s) v)=((pre++[v])++old++post).toArray:=by
    rw[List.setIfInBounds_toArray]
    congr 1
    rw[List.append_assoc,List.set_append_right _ _ oz,h1.symm,Nat.sub_self]
    simp
   rw[e,Zn7 r (s+1) off (pre++[v]) old post (by simp;omega) (by simpa using h2)]
   simp
theorem ZiF {k:Nat}:∀(rows:List (List Value)) (i:Nat) (pre z:List Value),pre.length=i*k→z.length=rows.length*k→(∀ r∈rows,r.length=k)→
 Instr.fill (fun i=>some (i*k,k)) (pre++z).toArray ((rows.zipIdx i).map fun p=>(p.2,Value.agg p.1.toArray))=some (pre++rows.flatten).toArray
 | [],i,pre,z,_,h2,_=>by
  have:z=[]:=List.length_eq_zero_iff.1 (by simpa using h2)
  subst this
  simp[Instr.fill]
 | r::rows,i,pre,z,h1,h2,h3=>by
  have hr:=h3 r yz
  have hz:z.length=k+rows.length*k:=by rw[h2,List.length_cons,Nat.succ_mul,Nat.add_comm]
  have hcell:(Value.agg r.toArray).cells=r.toArray:=rfl
  simp only[List.zipIdx_cons,List.map_cons,Instr.fill,hcell]
  rw[if_neg (by simp[hr];omega)]
  have e:(Array.foldl (fun cs (x:Value×Nat)=>cs.setIfInBounds (i*k+x.snd) x.fst) (pre++z).toArray r.toArray.zipIdx)=((pre++r)++z.drop k).toArray:=by
   have:=Zn7 r 0 (i*k) pre (z.take k) (z.drop k) h1 (by rw[List.length_take];omega)
   rw[List.append_assoc pre,List.take_append_drop]at this
   rw[←this]
   simp
  rw[e,ZiF rows (i+1) (pre++r) (z.drop k) (by rw[List.length_append,h1,hr,Nat.succ_mul]) (by rw[List.length_drop];omega) fun q hq=>h3 q (by simp[hq])]
  simp
section
variable {n:Rn} {N:Nat} {P:Program} {J X:WP} {S S' S'':Nat→Prop} {O:List OB} {w0:World} {env:List (Nat×AV)} {Q:Exit→Act→WP}
variable {o:Oper} {a:Act} {w:World} {t e u:TypeId} {x y:Operand}
theorem ZnM {k:Nat}:∀ {cs:List (List CD)} {vs:List Value},RelL S w (cs.map AV.agg) vs→(∀ r∈cs,r.length=k)→
 ∃ us:List (List Value),vs=us.map (fun r=>Value.agg r.toArray)∧us.length=cs.length∧(∀ r∈us,r.length=k)∧RdL S w cs.flatten us.flatten
 | [],vs,h,_=>by
  simp only[List.map_nil,RelL]at h
  subst h
  exact⟨[],rfl,rfl,by simp,trivial⟩
 | c::cs,vs,h,hk=>by
  simp only[List.map_cons,RelL]at h
  obtain⟨v,vs',rfl,h1,h2⟩:=h
  simp only[Rel]at h1
  obtain⟨u,rfl,hr⟩:=h1
  obtain⟨us,rfl,hl,hk2,hr2⟩:=ZnM (cs:=cs) h2 fun r hr=>hk r (by simp[hr])
  refine⟨u::us,rfl,by simp[hl],fun r hr3=>?_,?_⟩
  · rcases List.mem_cons.1 hr3 with rfl | hr3
    · rw[hr.length];exact hk c yz
    · exact hk2 r hr3
  · rw[List.flatten_cons,List.flatten_cons]
    exact hr.append hr2
theorem ZhQ {k m:Nat} {cs:List (List CD)} {vs:List Value} {z:Array Value} {parts:Array (Nat×Operand)} (ht:Yx P t e k) (hz:∀ w,(zeroValue e).run P w= .ok (.agg z) w) (hop:o.op= .buildSlice t m parts) (hp:(parts.map fun(i,x)=>(i,a.eval x)).toList=vs.zipIdx.map fun p=>(p.2,p.1)) (h:RelL S w (cs.map AV.agg) vs) (hk:∀ r∈cs,r.length=k) (hl:cs.length=m) (h1:1≤k) (hm:1≤m*k) (hm2:m*k≤16777216)
 (hS:S w.heap.size) (hx:∀ w',Keeps All w w'→X w'):Yj n P o a w (YB S X (.rd (.sl cs)) w):=by
 obtain⟨us,rfl,hul,huk,hall⟩:=ZnM h hk
 have hfl:us.flatten.length=m*k:=by
  have:∀ us:List (List Value),(∀ r∈us,r.length=k)→us.flatten.length=us.length*k:=by
   intro us
   induction us with
   | nil=>simp
   | cons r us ih=>intro h;rw[List.flatten_cons,List.length_append,h r yz,ih fun q hq=>h q (by simp[hq]),List.length_cons,Nat.succ_mul,Nat.add_comm]
  rw[this us huk,hul,hl]
 have hf:=ZiF us 0 [] ((List.range (m*k)).map (z[· %z.size]!)) yz (by simp[hul,hl]) huk
 have hf2:Instr.fill (fun i=>some (i*k,k)) ((Array.range (m*k)).map (z[· %z.size]!)) (parts.map fun(i,x)=>(i,a.eval x)).toList=some us.flatten.toArray:=by
  rw[hp,List.zipIdx_map,List.map_map]
  have e:(Array.range (m*k)).map (z[· %z.size]!)=([]++(List.range (m*k)).map (z[· %z.size]!)).toArray:=by
   apply Array.ext'
   simp[Array.toList_range]
  rw[e]
  exact hf
 have hk':Keeps All w (w.alloc (.cells us.flatten.toArray e)):=(Keeps.refl _ _).alloc _
 refine Z8 (v:=.slice (some ⟨w.heap.size,0,none⟩) m m) (w':=w.alloc (.cells us.flatten.toArray e)) ?_ ⟨?_,hk',hx _ hk'⟩
 · have hcz:(Value.agg z).cells=z:=rfl
   rw[execOp,hop]
   simp only[Sem.run_bind,Instr.buildSlice,run_underlying ht.1,Result.andThen_ok,ht.2 w]
   simp[newRow,newObj]
   rw[hz w]
   simp only[Result.andThen_ok,hcz]
   have hf3:=hf2
   simp only[Array.toList_map]at hf3
   simp only[hf3]
   rw[if_neg oz,if_neg oz]
   rfl
 · simp only[Rel]
   rw[show(m:Nat)=cs.length from hl.symm]
   refine Rd.of_cells (n:=k) (us:=us.flatten) nlr (by rw[hl];exact Nat.le_trans (Nat.le_mul_of_pos_right m h1) (Nat.le_trans hm2 dz)) yz hS hk (hall.keep hk' fun _ _ _=>trivial) fun j u hj=>ZaI j u hj
def Zqy (P:Program) (t:TypeId):Prop:=∀(ad:Option Addr) (k c:Nat) (p q:Int),P.built t [(0,.slice ad k c),(1,.agg #[.int .i64 p,.int .i64 q])]=some #[.slice ad k c,.int .i64 p,.int .i64 q]
theorem Zci {c d:Int} {v:Value} (h:Rel S w (.agg [.lit (.int .i64 c),.lit (.int .i64 d)]) v):v= .agg #[.int .i64 c,.int .i64 d]:=by
 simp only[Rel]at h
 obtain⟨us,rfl,hr⟩:=h
 match us,hr with
 | [p,q],hr=>
  obtain rfl:=hr.1.of_lit
  obtain rfl:=hr.2.1.of_lit
  rfl
theorem ZbH {xs:List BA} {p q:Int} (ht:Zqy P t) (hop:o.op= .build t #[(0,x),(1,y)]) (h1:Rel S w (.rd (Zf xs)) (a.eval x)) (h2:Rel S w (.agg [.lit (.int .i64 p),.lit (.int .i64 q)]) (a.eval y)) (hx:X w):
 Yj n P o a w (YB S X (.agg [Zf xs,.lit (.int .i64 p),.lit (.int .i64 q)]) w):=by
 have v2:=Zci h2
 simp only[Rel]at h1
 have g1:=h1
 obtain⟨ad,cap,e1,_,_⟩:=g1.form
 have hrun:=run_build (P:=P) w t #[(0,a.eval x),(1,a.eval y)] #[a.eval x,.int .i64 p,.int .i64 q] (by rw[v2,e1];exact ht ad _ cap p q)
 refine ZC (v:=.agg #[a.eval x,.int .i64 p,.int .i64 q]) ?_ ?_ hx
 · rw[execOp,hop]
   simp only[List.map_toArray,List.map_cons,List.map_nil,Sem.run_bind,hrun]
   rfl
 · simp only[Rel]
   exact⟨[a.eval x,.int .i64 p,.int .i64 q],rfl,h1,.lit _ True.intro,.lit _ True.intro,trivial⟩
def EqVd (P:Program) (t:TypeId):Prop:=∀(a b c d:Int) (w:World) (x y:Operand),(eqGuard .eql t x y (.agg #[.int .i64 a,.int .i64 b]) (.agg #[.int .i64 c,.int .i64 d])).run P w= .ok () w∧(eqGuard .neq t x y (.agg #[.int .i64 a,.int .i64 b]) (.agg #[.int .i64 c,.int .i64 d])).run P w= .ok () w∧
 (Op.equal t (.agg #[.int .i64 a,.int .i64 b]) (.agg #[.int .i64 c,.int .i64 d])).run P w= .ok (decide (a=c)&&decide (b=d)) w
theorem r_eqlV {c d c' d':Int} (ht:EqVd P t) (hop:o.op= .binOp .eql t x y u) (h1:Rel S w (.agg [.lit (.int .i64 c),.lit (.int .i64 d)]) (a.eval x)) (h2:Rel S w (.agg [.lit (.int .i64 c'),.lit (.int .i64 d')]) (a.eval y)) (hx:X w):
 Yj n P o a w (YB S X (.bool (decide (c=c')&&decide (d=d'))) w):=by
 obtain⟨g1,_,g3⟩:=ht c d c' d' w x y
 refine ZC (v:=.bool (decide (c=c')&&decide (d=d'))) ?_ (Rel.of_lit _) hx
 rw[execOp,hop]
 simp only[Zci h1,Zci h2,Sem.run_bind,g1,Result.andThen_ok,binOp,g3]
 rfl
theorem ZnY {c d c' d':Int} (ht:EqVd P t) (hop:o.op= .binOp .neq t x y u) (h1:Rel S w (.agg [.lit (.int .i64 c),.lit (.int .i64 d)]) (a.eval x)) (h2:Rel S w (.agg [.lit (.int .i64 c'),.lit (.int .i64 d')]) (a.eval y)) (hx:X w):
 Yj n P o a w (YB S X (.bool (!(decide (c=c')&&decide (d=d')))) w):=by
 obtain⟨_,g1,g3⟩:=ht c d c' d' w x y
 refine ZC (v:=.bool (!(decide (c=c')&&decide (d=d')))) ?_ (Rel.of_lit _) hx
 rw[execOp,hop]
 simp only[Zci h1,Zci h2,Sem.run_bind,g1,Result.andThen_ok,binOp,g3]
 rfl
end
section
variable {n:Rn} {P:Program} {X:WP} {S:Nat→Prop} {o:Oper} {a:Act} {w:World} {x y:Operand} {t:TypeId}
def Zj8 (P:Program) (t:TypeId):Prop:=P.built t []=some #[.slice none 0 0,.int .i64 0,.bool false,.int .i64 0,.int .i64 0]∧
 ∀ p q:Int,P.built t [(2,.bool true),(3,.agg #[.int .i64 p,.int .i64 q])]=some #[.slice none 0 0,.int .i64 0,.bool true,.int .i64 p,.int .i64 q]
theorem Zn4 (ht:Zj8 P t) (hop:o.op= .build t #[]) (hx:X w):Yj n P o a w (YB S X (.agg [Ye [],.lit (.int .i64 0),.lit (.bool false),.lit (.int .i64 0),.lit (.int .i64 0)]) w):=by
 have hrun:=run_build (P:=P) w t #[] #[.slice none 0 0,.int .i64 0,.bool false,.int .i64 0,.int .i64 0] ht.1
 refine ZC (v:=.agg #[.slice none 0 0,.int .i64 0,.bool false,.int .i64 0,.int .i64 0]) ?_ ?_ hx
 · rw[execOp,hop]
   simp only[List.map_toArray,List.map_nil,Sem.run_bind,hrun]
   rfl
 · simp only[Rel]
   exact⟨[.slice none 0 0,.int .i64 0,.bool false,.int .i64 0,.int .i64 0],rfl,.nil none 0 nzl,.lit _ True.intro,.lit _ True.intro,.lit _ True.intro,.lit _ True.intro,trivial⟩
theorem Zn3 {p q:Int} (ht:Zj8 P t) (hop:o.op= .build t #[(2,.const (.bool true)),(3,y)]) (h2:Rel S w (.agg [.lit (.int .i64 p),.lit (.int .i64 q)]) (a.eval y)) (hx:X w):
 Yj n P o a w (YB S X (.agg [Ye [],.lit (.int .i64 0),.lit (.bool true),.lit (.int .i64 p),.lit (.int .i64 q)]) w):=by
 have v2:=Zci h2
 have hrun:=run_build (P:=P) w t #[(2,.bool true),(3,a.eval y)] #[.slice none 0 0,.int .i64 0,.bool true,.int .i64 p,.int .i64 q] (by rw[v2];exact ht.2 p q)
 refine ZC (v:=.agg #[.slice none 0 0,.int .i64 0,.bool true,.int .i64 p,.int .i64 q]) ?_ ?_ hx
 · rw[execOp,hop]
   have e:(#[(2,Operand.const (.bool true)),(3,y)]:Array (Nat×Operand)).map (fun(i,x)=>(i,a.eval x))= #[(2,.bool true),(3,a.eval y)]:=by simp only[List.map_toArray,List.map_cons,List.map_nil];rfl
   simp only[e,Sem.run_bind,hrun]
   rfl
 · simp only[Rel]
   exact⟨[.slice none 0 0,.int .i64 0,.bool true,.int .i64 p,.int .i64 q],rfl,.nil none 0 nzl,.lit _ True.intro,.lit _ True.intro,.lit _ True.intro,.lit _ True.intro,trivial⟩
def Zqv (P:Program) (t:TypeId):Prop:=∀(a b c p q:Value) (w:World),(Instr.field t (.agg #[a,b,c,p,q]) 3).run P w= .ok (.agg #[p,q]) w
theorem Zrj {c0 c1 c2:CD} {p q:Int} (ht:Zqv P t) (hop:o.op= .field t x 3) (h:Rel S w (.agg [c0,c1,c2,.lit (.int .i64 p),.lit (.int .i64 q)]) (a.eval x)) (hx:X w):
 Yj n P o a w (YB S X (.agg [.lit (.int .i64 p),.lit (.int .i64 q)]) w):=by
 simp only[Rel]at h
 obtain⟨us,e,hr⟩:=h
 match us,e,hr with
 | [u0,u1,u2,u3,u4],e,hr=>
  obtain rfl:=hr.2.2.2.1.of_lit
  obtain rfl:=hr.2.2.2.2.1.of_lit
  refine ZC (v:=.agg #[.int .i64 p,.int .i64 q]) ?_ ?_ hx
  · rw[execOp,hop]
    simp only[e,Sem.run_bind,ht u0 u1 u2 _ _ w]
    rfl
  · simp only[Rel]
    exact⟨[.int .i64 p,.int .i64 q],rfl,.lit _ True.intro,.lit _ True.intro,trivial⟩
end
end Go.Proofs.YtneapgbkkkjagaaGreatDoor
set_option maxHeartbeats 8000000
set_option maxRecDepth 100000
namespace Go.Proofs.YtneapgbkkkjagaaGreatDoor
open Go.Proofs.Tryz (prog)
open Go.RowKit
theorem Xr:Yx prog 76 82 3:=⟨by kernel_rfl,fun w=>by kernel_rfl⟩
theorem ZmP:ZbU prog 82 3:=⟨#[.string ⟨#[]⟩,.int .i64 0,.bool false],rfl,fun i=>(#[(0,1),(1,1),(2,1)]:Array (Nat×Nat))[i]?,fun j hj=>by rcases j with _ | _ | _ | j<;>first | rfl | omega,fun parts=>by kernel_rfl⟩
theorem Zew:Zds prog 82:=⟨.agg #[.string ⟨#[]⟩,.int .i64 0,.bool false],fun w=>by kernel_rfl⟩
theorem ZbT:Zgw prog 76 82 3 32:=ZqD (.agg #[.string ⟨#[]⟩,.int .i64 0,.bool false]) (by kernel_rfl) (by kernel_rfl) rfl dz (fun w=>by kernel_rfl)
theorem Ztd:Zk prog 119:=Zp Tryz.func119 rfl rfl
theorem Ztc:Zk prog 120:=Zp Tryz.func120 rfl rfl
theorem Ztb:Zk prog 121:=Zp Tryz.func121 rfl rfl
theorem ZmA:ZX prog 82 2 2:=fun b off w=>by kernel_rfl
theorem Zgg:ZX prog 82 1 1:=fun b off w=>by kernel_rfl
theorem Zgh:ZX prog 82 0 0:=fun b off w=>by kernel_rfl
theorem Zwu:Zk prog 71:=Zp Tryz.func71 rfl rfl
theorem Zwt:Zk prog 72:=Zp Tryz.func72 rfl rfl
theorem Zws:Zk prog 73:=Zp Tryz.func73 rfl rfl
section
variable {J:WP} (hJ:Stab J)
include hJ
theorem Ztp (t:List BA)  :Fn prog J 66 [.rd (Zf t)] (.tup [.rd (ZhA (if 2000<t.length then []else Zl8 t)),.int (if 2000<t.length then 10 else 0)]):=by
 refine fE Tryz.func66 fun S w0 hS hJ0=>?_
 refine tw ZR (ln 0 fun hl1=>?_)
 refine qso tb hJ [0] U2 [_] ?_
 refine Ze (ZG tb hJ [0,1002] [_,.int (t.length:Nat),_] [1] U2 rfl ⟨Z3 Zm,trivial⟩ ?_)
 refine cj 1 (fun hb1=>?_) fun hb1=>?_
 ·
  try simp at hb1
  have e3:2000<t.length:=by omega
  refine qso tb hJ [1000,1001] U2 U2 ?_
  exact tw (fun h=>Yb h (m:=0) (s:=2) rfl) (ZA (fun a w h=>Y0 (m:=0) (k:=1) rfl (ZW h) rfl rfl (congrArg (fun z=>AV.rd (ZhA z)) (show([]:List Ri)=(if 2000<t.length then []else Zl8 t)from by first | (rw[if_pos e3];done) | (rw[if_neg e3];done) | (rw[if_neg e3,f1_2,ZD oz]))) (eI (by first | (rw[if_pos e3];done) | (rw[if_neg e3];done) | (rw[if_neg e3,f1_2,ZD oz])))))
 ·
  try simp at hb1
  have e3:¬ 2000<t.length:=by omega
  refine Zb (nx (tsq (XF Xr hJ rfl rfl rfl (lb rfl) fun v1=>?_)))
  refine snK 1 tb rfl (seK [0,2] U2 rfl ?_)
  refine nx (Ze (qso tb hJ [0,1,1000] [_] U3 ?_))
  refine Zc (lpo (ι:=Nat×Value×(List Ri)) (fun(k,_,out)=>(k≤t.length)∧(out=Zl8 (t.take k))∧(out.length≤k)) (fun(_,v,out)=>[OB.row v 82 3 (out.map riC)]) (fun(k,v,_)=>[(5,.int (k:Nat)),(4,.lit v)]) (fun(k,_,_)=>t.length-k) [1,2,0] [_] (0,v1,([]:List Ri)) ⟨nzl,rfl,Nat.le_refl _⟩ ?_)
  rintro⟨k,v,out⟩ ⟨f1_1,f1_2,f1_3⟩
  refine Ze (ZG tb hJ [0,1,2,1003] [_,_,.int (t.length:Nat),_] [2] U4 rfl ⟨Z3 Zm,trivial⟩ ?_)
  refine cj 3 (fun hb2=>?_) fun hb2=>?_
  ·
   try simp at hb2
   refine Zb (nx (Ze (Zc (fun a w h=>X5 [] (γ:=Value) (fun ix'=>([.lit v,.rd (Zf t),.int (k:Nat),.ptr [lS (ge t k)],.str (ge t k),.rd (Zf t),.int (k:Nat),.ptr [lS (ge t k)],.str (ge t k),.bool (decide ((ge t k)=(⟨#[63]⟩:BA))),.agg (riC (⟨(ge t k),(-1:Int),decide ((ge t k)=(⟨#[63]⟩:BA))⟩:Ri)),.rd (ZhA ([(⟨(ge t k),(-1:Int),decide ((ge t k)=(⟨#[63]⟩:BA))⟩:Ri)])),.any,.any]:List AV).getD ix' .any) (fun _=>true) [(0,fun _=>.rd (Zf t)),(5,fun _=>.int (k:Nat)),(4,fun g=>.lit g)] (fun j' g=>match j' with | 0=>[OB.row v 82 3 (out.map riC)] | _=>[OB.row g 82 3 ((out++([(⟨(ge t k),(-1:Int),decide ((ge t k)=(⟨#[63]⟩:BA))⟩:Ri)])).map riC)]) (fun k' g=>match k' with | 0=>g | 1=>g | _=>undef) [12,13] 2 (.slice none 0 0) (fun _=>rfl) h hJ Yr rfl rfl rfl rfl rfl rfl hsb ⟨?_,?_,?_,?_,?_,?_,?_,?_,?_,?_,?_,?_,?_,?_,trivial⟩ ⟨?e7_1_0,?e7_1_1,trivial⟩ ⟨.old 0 0 _,.old 1 5 _,.eff 1 13 4 (fun(g:Value)=>g) rfl rfl (fun _=>rfl) (fun _ _ hx=>Zah (hx.2.1 _ (mo 0 rfl))),trivial⟩ ?n7_1))))
   exact oX rfl fun hx hl=>Z2 rfl (hl.env 2 4 _ rfl rfl) hx
   exact oX rfl fun hx hl=>Z2 rfl (hl.env 0 0 _ rfl rfl) hx
   exact oX rfl fun hx hl=>Z2 rfl (hl.env 1 5 _ rfl rfl) hx
   exact oX rfl fun hx hl=>ZQ (i:=(k:Int)) Zd rfl (hl.D 1 17 rfl rfl) (hl.D 2 18 rfl rfl) nnn (Z0 (xs:=t) (k:=k) sfz) rfl hx
   exact oX rfl fun hx hl=>ZH QU rfl (hl.D 3 19 rfl rfl) hx
   exact oX rfl fun hx hl=>Z2 rfl (hl.env 0 0 _ rfl rfl) hx
   exact oX rfl fun hx hl=>Z2 rfl (hl.env 1 5 _ rfl rfl) hx
   exact oX rfl fun hx hl=>ZQ (i:=(k:Int)) Zd rfl (hl.D 5 21 rfl rfl) (hl.D 6 22 rfl rfl) nnn (Z0 (xs:=t) (k:=k) sfz) rfl hx
   exact oX rfl fun hx hl=>ZH QU rfl (hl.D 7 23 rfl rfl) hx
   exact oX rfl fun hx hl=>ZtW rfl (hl.D 8 24 rfl rfl) (Rel.of_lit (.string { data:= #[63] }) (lb rfl)) hx
   exact fun _ O' _=>⟨rfl,fun a _ _ hx hl _=>Xe (us:=[a.eval (.tmp 20),a.eval (.const (.int .i64 (-1))),a.eval (.tmp 25)]) ZmP rfl yz (Zi (hl.D 4 20 rfl rfl) (Zi (Rel.of_lit (.int .i64 (-1))) (Zi (hl.D 9 25 rfl rfl) ZJ))) rfl hx⟩
   exact oY rfl fun hk hx hl=>Xw Xr Zew dz rfl rfl (hl.D 10 26 rfl rfl) (Zq hS _ hk hx _ nlr) (jo hJ hx)
   exact Zl rfl
   exact Zl rfl
   case e7_1_0=>exact⟨_,rfl,rfl,rfl,rfl,fun _ _ w hk hx hl _=>Zx (Qw (f:=riC) out ([(⟨(ge t k),(-1:Int),decide ((ge t k)=(⟨#[63]⟩:BA))⟩:Ri)]) (fun _=>rfl) ZbT hJ hJ0 rfl hk hx (hl.D 0 16 rfl rfl).lit (hl.D 11 27 rfl rfl) sfz sfz) fun v w' hp=>⟨v,rfl,fun k' hk'=>absurd hk' (Nat.not_lt_zero _),fun _=>rfl,hp⟩⟩
   case e7_1_1=>exact⟨_,rfl,rfl,rfl,rfl,fun g _ w hk hx _ hs=>Zx (Zbn (.inl rfl) (hs 0 12 _ 28 oz rfl rfl rfl) hk hx) fun v w' hp=>⟨g,rfl,fun _ _=>rfl,fun _=>hp.1,hp.2⟩⟩
   clear a w h
   intro v2
   dsimp only[List.map]
   refine nx (Yo tb hJ [0,2,1002] [_,.int (k+1:Nat),_] [1] U3 rfl ⟨Z7,trivial⟩ ?_)
   exact YE (k+1,v2,out++([(⟨(ge t k),(-1:Int),decide ((ge t k)=(⟨#[63]⟩:BA))⟩:Ri)])) [0,2,1] ⟨oz,by rw[Zn6 oz,←f1_2],by simp;omega⟩
  ·
   try simp at hb2
   refine Zs (nx (qso tb hJ [1001,1002] U3 U2 ?_))
   exact tw (fun h=>ZO hS h (m:=0) (s:=2) rfl) (ZA (fun a w h=>Y0 (m:=0) (k:=1) rfl (ZW h) rfl rfl (congrArg (fun z=>AV.rd (ZhA z)) (show out=(if 2000<t.length then []else Zl8 t)from by first | (rw[if_pos e3];done) | (rw[if_neg e3];done) | (rw[if_neg e3,f1_2,ZD oz]))) (eI (by first | (rw[if_pos e3];done) | (rw[if_neg e3];done) | (rw[if_neg e3,f1_2,ZD oz])))))
theorem c_HypR (f:Fr) (s:BA)  :Fn prog J 71 [.agg (frC f),.str s] (.tup [.agg (hyC ((QF f s).getD default)),.bool ((QF f s).isSome)]):=by
 refine fE Tryz.func71 fun S w0 hS hJ0=>?_
 refine tw ZR (tsq ?_)
 refine sy (.ptr (frC f)) (fun h=>ZdD rfl (h.get 0 rfl) (Zq hS _ h.keep h.x _ nlr) (jo hJ h.x)) ?_
 refine ZT YI hJ rfl rfl rfl (lb rfl) fun b1=>?_
 refine snK 1 tb rfl (seK [1,2,4] U3 rfl ?_)
 refine nx (Ze (qso tb hJ [0,1,2,1000] [_] U4 ?_))
 refine Zc (lpo (ι:=Nat) (fun k=>(k≤f.hyps.length)∧(∀ j,j<k→¬ (ge f.hyps j).label=s)) (fun _=>[OB.var b1 [lS (⟨#[]⟩:BA),lB false,Zf ([]:List BA)]]) (fun k=>[(6,.int (k:Nat))]) (fun k=>f.hyps.length-k) [0,1,2,3] U3 0 ⟨nzl,fun j hj=>by omega⟩ ?_)
 rintro k ⟨f1_1,f1_2⟩
 refine Ze (ZG tb hJ [0,1,2,3,1002,1004] (V3 [.int (f.hyps.length:Nat),_]) [3] U6 rfl ⟨Z3 Zz,trivial⟩ ?_)
 refine ln 4 fun hl1=>?_
 refine cj 5 (fun hb1=>?_) fun hb1=>?_
 ·
  try simp at hb1
  refine Zb (nx (Ze (Zc (ZG tb hJ [0,1,2,3,1007] (V3 [.ptr (hyC (ge f.hyps k)),_,_,_,_]) [3] U5 rfl ⟨iIx Zo,trivial⟩ ?_))))
  refine cj 4 (fun hb2=>?_) fun hb2=>?_
  ·
   try simp at hb2
   have e3:QF f s=some (ge f.hyps k):=Ze9 (k:=0) oz (fun i hi=>by omega) hb1 f1_2 hb2
   refine tsq (snK 3 tb rfl (sy (.ptr (hyC (ge f.hyps k))) (fun h=>ZQ (i:=(k:Int)) Zo rfl (h.get 1 rfl) (h.get 0 rfl) nnn (Z0 (xs:=f.hyps) (k:=k) sfz) rfl h.x) ?_))
   refine snK 1 tb rfl (ZB (b:=b1) (off:=0) (es:=U3) (news:=U3) hJ hJ0 YN rfl rfl rfl (lb rfl) rfl (fun a w h=>⟨(h.get 5 rfl),(h.get 0 rfl)⟩) ?_)
   refine snK 1 tb rfl (seK [0,6] U2 rfl ?_)
   exact nx (ZA (fun a w h=>Zan (m:=1) (q:=0) rfl XY h rfl rfl (show(_:List CD)=[lS (((QF f s).getD default).label),lB (((QF f s).getD default).floating),Zf (((QF f s).getD default).text)]from by(rw[e3];rfl)<;>rfl) rfl (eB (by rw[e3];rfl))))
  ·
   try simp at hb2
   refine Zb (nx (Yo tb hJ [0,1,2,1002] [_,.int (k+1:Nat),_] [1] U4 rfl ⟨Z7,trivial⟩ ?_))
   exact YE (k+1) [0,1,2,3] ⟨oz,ZK f1_2 hb2⟩
 ·
  try simp at hb1
  have h0_:∀ i,i<1→∀ h∈Zdx f.hyps f.dummies i,¬ h.label=s:=fun i hi h hh=>by obtain rfl:i=0:=oz;obtain⟨j,hj,rfl⟩:=Xp (show h∈f.hyps from hh);exact f1_2 j oz
  refine Zs (nx (Ze (qso tb hJ [0,1,2,1000] [_] U4 ?_)))
  refine Zc (lpo (ι:=Nat) (fun q=>(q≤f.dummies.length)∧(∀ j,j<q→¬ (ge f.dummies j).label=s)) (fun _=>[OB.var b1 [lS (⟨#[]⟩:BA),lB false,Zf ([]:List BA)]]) (fun q=>[(7,.int (q:Nat))]) (fun q=>f.dummies.length-q) [0,1,2,3] U3 0 ⟨nzl,fun j hj=>by omega⟩ ?_)
  rintro q ⟨f2_1,f2_2⟩
  refine Ze (ZG tb hJ [0,1,2,3,1002,1004] (V3 [.int (f.dummies.length:Nat),_]) [3] U6 rfl ⟨Z3 Zz,trivial⟩ ?_)
  refine ln 4 fun hl2=>?_
  refine cj 5 (fun hb3=>?_) fun hb3=>?_
  ·
   try simp at hb3
   refine Zb (nx (Ze (Zc (ZG tb hJ [0,1,2,3,1007] (V3 [.ptr (hyC (ge f.dummies q)),_,_,_,_]) [3] U5 rfl ⟨iIx Zo,trivial⟩ ?_))))
   refine cj 4 (fun hb4=>?_) fun hb4=>?_
   ·
    try simp at hb4
    have e3:QF f s=some (ge f.dummies q):=Ze9 (k:=1) oz h0_ hb3 f2_2 hb4
    refine tsq (snK 3 tb rfl (sy (.ptr (hyC (ge f.dummies q))) (fun h=>ZQ (i:=(q:Int)) Zo rfl (h.get 1 rfl) (h.get 0 rfl) nnn (Z0 (xs:=f.dummies) (k:=q) sfz) rfl h.x) ?_))
    refine snK 1 tb rfl (ZB (b:=b1) (off:=0) (es:=U3) (news:=U3) hJ hJ0 YN rfl rfl rfl (lb rfl) rfl (fun a w h=>⟨(h.get 5 rfl),(h.get 0 rfl)⟩) ?_)
    refine snK 1 tb rfl (seK [0,6] U2 rfl ?_)
    exact nx (ZA (fun a w h=>Zan (m:=1) (q:=0) rfl XY h rfl rfl (show(_:List CD)=[lS (((QF f s).getD default).label),lB (((QF f s).getD default).floating),Zf (((QF f s).getD default).text)]from by(rw[e3];rfl)<;>rfl) rfl (eB (by rw[e3];rfl))))
   ·
    try simp at hb4
    refine Zb (nx (Yo tb hJ [0,1,2,1002] [_,.int (q+1:Nat),_] [1] U4 rfl ⟨Z7,trivial⟩ ?_))
    exact YE (q+1) [0,1,2,3] ⟨oz,ZK f2_2 hb4⟩
  ·
   try simp at hb3
   have e3:QF f s=none:=Zfa fun i hi h hh=>by(rcases Nat.lt_or_ge i 1 with h9 | h9);exact h0_ i h9 h hh;obtain rfl:i=1:=oz;obtain⟨j,hj,rfl⟩:=Xp (show h∈f.dummies from hh);exact f2_2 j oz
   refine Zs (nx (tsq (sy (.agg (hyC (⟨⟨#[]⟩,false,[]⟩:Hy))) (fun h=>Yh (ps:=[]) (us:=[.string ⟨#[]⟩,.bool false,.slice none 0 0]) ZiP rfl yz ZcJ rfl (Ys (.lit _ nzl) (Ys (.lit _ True.intro) (Ys (.nil _ _ nzl) ZJ))) h.x) ?_)))
   refine ZB (b:=b1) (off:=0) (es:=U3) (news:=U3) hJ hJ0 YN rfl rfl rfl (lb rfl) rfl (fun a w h=>⟨(h.get 1 rfl),(h.get 0 rfl)⟩) ?_
   refine snK 1 tb rfl (seK [0,2] U2 rfl ?_)
   exact nx (ZA (fun a w h=>Zan (m:=1) (q:=0) rfl XY h rfl rfl (show(_:List CD)=[lS (((QF f s).getD default).label),lB (((QF f s).getD default).floating),Zf (((QF f s).getD default).text)]from by(rw[e3];rfl)<;>rfl) rfl (eB (by rw[e3];rfl))))
theorem Ztv (d:Db) (i:Nat) (s:BA) (hi:i≤d.frames.length):Fn prog J 72 [.agg (dbC d),.int (i:Nat),.str s] (.int (Z9 d i s)):=by
 refine fE Tryz.func72 fun S w0 hS hJ0=>?_
 clear hJ0
 refine hqs tb hJ [1,2,1000] [.ptr (dbC d),_] [0] U3 rfl ⟨iBs hS hJ,trivial⟩ ?_
 refine Ze (qs tb hJ [0,1,2,1000] [_] U4 ?_)
 refine Zc (lp (ι:=Nat) (fun k=>(k≤i)∧(∀ j,j<k→¬ (ge d.frames j).label=s)) (fun k=>[(7,.int (k:Nat))]) (fun k=>i-k) [0,1,2,3] U3 0 ⟨nzl,fun j hj=>by omega⟩ ?_)
 rintro k ⟨f1_1,f1_2⟩
 refine Ze (qs tb hJ [0,1,2,3,1002] U3 U5 ?_)
 refine cj 4 (fun hb1=>?_) fun hb1=>?_
 ·
  try simp at hb1
  refine Zb (nx (Ze (Zc (hqs tb hJ [0,1,2,3,1001,1007] (V3 [.ptr (frC (ge d.frames k)),_,_,_,_]) [3] U6 rfl ⟨iIx ZV,trivial⟩ ?_))))
  refine ln 4 fun hl1=>?_
  refine cj 5 (fun hb2=>?_) fun hb2=>?_
  ·
   try simp at hb2
   refine qs tb hJ [1001] U2 [_] ?_
   exact tRn 0 (hE:=eI (by first | exact(ZfB hi hb1 f1_2 hb2).symm | exact(ZdP fun j hj=>f1_2 j oz).symm))
  ·
   try simp at hb2
   refine Zb (nx (hqp tb hJ [0,1,2,1002] [_,.int (k+1:Nat),_] [1] U4 rfl ⟨Z7,trivial⟩ ?_))
   exact lpE (k+1) [0,1,2,3] ⟨oz,ZK f1_2 hb2⟩
 ·
  try simp at hb1
  refine Zs (nx (qs tb hJ [1000] [_] [_] ?_))
  exact tRn 0 (hE:=eI (by first | exact(ZfB hi hb1 f1_2 hb2).symm | exact(ZdP fun j hj=>f1_2 j oz).symm))
theorem c_UseR (d:Db) (i q:Nat) (es:List (List BA)) (hi:i<d.frames.length) (hq:q<d.frames.length) (hes:es.length=(ge d.frames q).hyps.length) (het:∀ t∈es,1≤t.length∧t.length≤2000) (hf:∀ h∈(ge d.frames q).hyps,h.floating=true→h.text.length=2) (hap:(ge d.frames q).apart.length≤100000) (hh:(ge d.frames q).hyps.length≤2000):Fn prog J 73 [.agg (dbC d),.int (i:Nat),.int (q:Nat),.rd (Ye es)] (.tup [.rd (Zf ((Zcj d.vars (ge d.frames i).wide (ge d.frames q) es).1)),.int ((Zcj d.vars (ge d.frames i).wide (ge d.frames q) es).2)]):=by
 refine fE Tryz.func73 fun S w0 hS hJ0=>?_
 refine tw ZR (ln 3 fun hl1=>?_)
 refine ZG tb hJ [1,2,3,1000] [.ptr (dbC d),_,_] [0] U4 rfl ⟨iBo hS hJ,trivial⟩ ?_
 refine tsq (snK 3 tb rfl (sy (.ptr (frC (ge d.frames q))) (fun h=>ZQ (i:=(q:Int)) ZV rfl (h.get 1 rfl) (h.get 0 rfl) nnn (Z0 (xs:=d.frames) (k:=q) sfz) rfl h.x) ?_))
 refine snK 1 tb rfl (XZ (cs:=frC (ge d.frames q)) Zec rfl rfl rfl (lb rfl) rfl rfl rfl dz (m:=0) rfl rfl (fun a w h=>Zq hS _ h.keep h.x _ nlr) (fun a w h w' hk'=>YA hJ _ _ hk' h.x) ?_)
 refine seK [0,4,6,8,9] U5 rfl (nx (ln 1 fun hl2=>?_))
 refine tsq (XF XD hJ rfl rfl rfl (lb rfl) fun v1=>?_)
 refine snK 1 tb rfl (seK [0,2,4,5,6] U5 rfl ?_)
 refine nx (Ze (qso tb hJ (r5 [1000]) [_] U6 ?_))
 refine Zc (lpo (ι:=Nat×Value×(List Bd)) (fun(k,_,bs)=>(k≤(ge d.frames q).hyps.length)∧(bs=YW (ge d.frames q).hyps es 0 k)∧(∀ j,j<k→Ze5 (ge d.frames q).hyps es 0 j=true)) (fun(_,wv,bs)=>[OB.row wv 161 2 (bs.map bdC)]) (fun(k,wv,_)=>[(12,.int (k:Nat)),(11,.lit wv)]) (fun(k,_,_)=>(ge d.frames q).hyps.length-k) [1,2,3,4,5,0] U4 (0,v1,([]:List Bd)) ⟨nzl,rfl,fun j hj=>by omega⟩ ?_)
 rintro⟨k,wv,bs⟩ ⟨f1_1,f1_2,f1_3⟩
 refine Ze (ZG tb hJ (r6 [1002,1004]) (V3 [.int (((ge d.frames q).hyps).length:Nat),_]) [3] U8 rfl ⟨Z3 Zz,trivial⟩ ?_)
 refine ln 6 fun hl3=>?_
 refine cj 7 (fun hb1=>?_) fun hb1=>?_
 ·
  try simp at hb1
  refine Zb (nx (Ze (Zc (Ze (ZG tb hJ (r6 [1006]) (V3 [.ptr (hyC (ge ((ge d.frames q).hyps) k)),_,_,_]) [3] U7 rfl ⟨iIx Zo,trivial⟩ ?_)))))
  refine cj 6 (fun hb2=>?_) fun hb2=>?_
  ·
   try simp at hb2
   refine Zs (nx (Yo tb hJ [0,1,2,3,5,1002] [_,.int (k+1:Nat),_] [1] U6 rfl ⟨Z7,trivial⟩ ?_))
   exact YE (k+1,wv,bs) [0,1,2,3,5,4] ⟨oz,by rw[Zdp,←f1_2];simp[Zqn,hb2],ZK f1_3 (by simp[Ze5,hb2])⟩
  ·
   try simp at hb2
   have e3:(ge (ge d.frames q).hyps k).text.length=2:=hf _ (Zu oz) (by simpa using hb2)
   have e4:=het _ (Zu (xs:=es) (k:=k) oz)
   refine Zb (nx (Ze (ZG tb hJ (r6 [1003,1022]) [_,_,.ptr [Zf (ge es k)],_,.int ((ge es k).length:Nat),_,_,_,_,.ptr [Zf (ge es k)],_,.ptr [lS (ge (ge es k) 0)],_,_,_,_,.ptr (hyC (ge ((ge d.frames q).hyps) k)),_,_,.ptr [lS (ge ((ge ((ge d.frames q).hyps) k).text) 0)],_,_,_] [2,4,9,11,16,19] U8 rfl ⟨iIx ZF,Z3 Zm,gIx ZF (hk:=fun(hc':((decide ((((ge es k).length:Nat):Int)=(0:Int)))==false)=true)=>by(try simp at hc');first | omega | (simp;omega) | grind[Zu]),gIx (k:=0) Zd (hk:=fun(hc':((decide ((((ge es k).length:Nat):Int)=(0:Int)))==false)=true)=>by(try simp at hc');first | omega | (simp;omega) | grind[Zu]),gIx Zo (hk:=fun(hc':((decide ((((ge es k).length:Nat):Int)=(0:Int)))==false)=true)=>by(try simp at hc');first | omega | (simp;omega) | grind[Zu]),gIx (k:=0) Zd (hk:=fun(hc':((decide ((((ge es k).length:Nat):Int)=(0:Int)))==false)=true)=>by(try simp at hc');first | omega | (simp;omega) | grind[Zu]),trivial⟩ ?_)))
   refine ln 6 fun hl4=>?_
   refine cj 7 (fun hb3=>?_) fun hb3=>?_
   ·
    have e5:Ze5 (ge d.frames q).hyps es 0 k=false:=by simp only[Ze5,Nat.zero_add,Bool.or_eq_false_iff,Bool.not_eq_false',decide_eq_false_iff_not];exact⟨by simpa using hb2,fun e=>by simp[e]at hb3;have:=e4.1;simp[hb3]at this⟩
    have eU:(Zcj d.vars (ge d.frames i).wide (ge d.frames q) es)=([],24):=ux_24 oz e5
    refine qso tb hJ [1000,1001] U2 U2 ?_
    exact tw (fun h=>Yb h (m:=0) (s:=8) rfl) (ZA (fun a w h=>Y0 (m:=0) (k:=1) rfl (ZW h) rfl rfl (congrArg (fun z=>AV.rd (Zf z)) (show([]:List BA)=((Zcj d.vars (ge d.frames i).wide (ge d.frames q) es).1)from by first | (rw[eU];done) | (rw[eU,if_neg (by simp[e9])]))) (eI (by first | (rw[eU];done) | (rw[eU,if_neg (by simp[e9])])))))
   ·
    have e5:Ze5 (ge d.frames q).hyps es 0 k=true:=by simp only[Bool.or_eq_false_iff,Bool.not_eq_false',decide_eq_true_eq]at hb3;simp[Ze5,hb3.2]
    refine Zb (nx (fun a w h=>X5 [] (γ:=Value) (fun ix'=>([.lit wv,.ptr [Y1 ((ge d.frames q).hyps),YV ((ge d.frames q).apart),Zf ((ge d.frames q).text),Y1 ((ge d.frames q).dummies),YV ((ge d.frames q).wide),Zf ((ge d.frames q).proof)],.rd (Y1 ((ge d.frames q).hyps)),.int (k:Nat),.ptr (hyC (ge ((ge d.frames q).hyps) k)),.ptr [Zf ((ge ((ge d.frames q).hyps) k).text)],.rd (Zf ((ge ((ge d.frames q).hyps) k).text)),.ptr [lS (ge ((ge ((ge d.frames q).hyps) k).text) 1)],.str (ge ((ge ((ge d.frames q).hyps) k).text) 1),.rd (Ye es),.int (k:Nat),.ptr [Zf (ge es k)],.rd (Zf (ge es k)),.rd (Zf ((ge es k).drop 1)),.agg (bdC (⟨(ge ((ge ((ge d.frames q).hyps) k).text) 1),(ge es k).drop 1⟩:Bd)),.rd (Zea ([(⟨(ge ((ge ((ge d.frames q).hyps) k).text) 1),(ge es k).drop 1⟩:Bd)])),.any,.any]:List AV).getD ix' .any) (fun _=>true) [(10,fun _=>.ptr (frC (ge d.frames q))),(1,fun _=>.int (i:Nat)),(3,fun _=>.rd (Ye es)),(4,fun _=>.ptr (dbC d)),(12,fun _=>.int (k:Nat)),(11,fun g=>.lit g)] (fun j' g=>match j' with | 0=>[OB.row wv 161 2 (bs.map bdC)] | _=>[OB.row g 161 2 ((bs++([(⟨(ge ((ge ((ge d.frames q).hyps) k).text) 1),(ge es k).drop 1⟩:Bd)])).map bdC)]) (fun k' g=>match k' with | 0=>g | 1=>g | _=>undef) [16,17] 2 (.slice none 0 0) (fun _=>rfl) h hJ Yr rfl rfl rfl rfl rfl rfl hsb ⟨?_,?_,?_,?_,?_,?_,?_,?_,?_,?_,?_,?_,?_,?_,?_,?_,?_,?_,trivial⟩ ⟨?e9_1_0,?e9_1_1,trivial⟩ ⟨.old 0 10 _,.old 1 1 _,.old 2 3 _,.old 3 4 _,.old 4 12 _,.eff 1 17 11 (fun(g:Value)=>g) rfl rfl (fun _=>rfl) (fun _ _ hx=>Zah (hx.2.1 _ (mo 0 rfl))),trivial⟩ ?n9_1))
    exact oX rfl fun hx hl=>Z2 rfl (hl.env 5 11 _ rfl rfl) hx
    exact oX rfl fun hx hl=>ZN Qh rfl (hl.env 0 10 _ rfl rfl) hx
    exact oX rfl fun hx hl=>ZH Zcu rfl (hl.D 1 62 rfl rfl) hx
    exact oX rfl fun hx hl=>Z2 rfl (hl.env 4 12 _ rfl rfl) hx
    exact oX rfl fun hx hl=>ZQ (i:=(k:Int)) Zo rfl (hl.D 2 63 rfl rfl) (hl.D 3 64 rfl rfl) nnn (Z0 (xs:=(ge d.frames q).hyps) (k:=k) sfz) rfl hx
    exact oX rfl fun hx hl=>ZN Qg rfl (hl.D 4 65 rfl rfl) hx
    exact oX rfl fun hx hl=>ZH Xg rfl (hl.D 5 66 rfl rfl) hx
    exact oX rfl fun hx hl=>ZQ (i:=((1:Nat):Int)) Zd rfl (hl.D 6 67 rfl rfl) (Rel.of_lit (.int .i64 1)) nnn (Z0 (xs:=(ge ((ge d.frames q).hyps) k).text) (k:=1) sfz) rfl hx
    exact oX rfl fun hx hl=>ZH QU rfl (hl.D 7 68 rfl rfl) hx
    exact oX rfl fun hx hl=>Z2 rfl (hl.env 2 3 _ rfl rfl) hx
    exact oX rfl fun hx hl=>Z2 rfl (hl.env 4 12 _ rfl rfl) hx
    exact oX rfl fun hx hl=>ZQ (i:=(k:Int)) ZF rfl (hl.D 9 70 rfl rfl) (hl.D 10 71 rfl rfl) nnn (Z0 (xs:=es) (k:=k) sfz) rfl hx
    exact oX rfl fun hx hl=>ZH Xg rfl (hl.D 11 72 rfl rfl) hx
    exact oX rfl fun hx hl=>Yy (ys:=(ge es k).drop 1) (lo:=1) (hi:=(ge es k).length) (by rw[List.take_length]) Zd (fun _=>rfl) rfl (hl.D 12 73 rfl rfl) (Rel.of_lit (.int .i64 1)) rfl sfz sfz hx
    exact fun _ O' _=>⟨rfl,fun a _ _ hx hl _=>Xe (us:=[a.eval (.tmp 69),a.eval (.tmp 74)]) Zfw rfl yz (Zi (hl.D 8 69 rfl rfl) (Zi (hl.D 13 74 rfl rfl) ZJ)) rfl hx⟩
    exact oY rfl fun hk hx hl=>Xw XD Zj9 dz rfl rfl (hl.D 14 75 rfl rfl) (Zq hS _ hk hx _ nlr) (jo hJ hx)
    exact Zl rfl
    exact Zl rfl
    case e9_1_0=>exact⟨_,rfl,rfl,rfl,rfl,fun _ _ w hk hx hl _=>Zx (Qw (f:=bdC) bs ([(⟨(ge ((ge ((ge d.frames q).hyps) k).text) 1),(ge es k).drop 1⟩:Bd)]) (fun _=>rfl) Zfz hJ hJ0 rfl hk hx (hl.D 0 61 rfl rfl).lit (hl.D 15 76 rfl rfl) (by have:=Zet (ge d.frames q).hyps es 0 k;rw[f1_2];simp;omega) (by have:=Zet (ge d.frames q).hyps es 0 k;rw[f1_2];simp;omega)) fun v w' hp=>⟨v,rfl,fun k' hk'=>absurd hk' (Nat.not_lt_zero _),fun _=>rfl,hp⟩⟩
    case e9_1_1=>exact⟨_,rfl,rfl,rfl,rfl,fun g _ w hk hx _ hs=>Zx (Zbn (.inl rfl) (hs 0 16 _ 77 oz rfl rfl rfl) hk hx) fun v w' hp=>⟨g,rfl,fun _ _=>rfl,fun _=>hp.1,hp.2⟩⟩
    clear a w h
    intro v2
    dsimp only[List.map]
    refine nx (Yo tb hJ [0,1,2,3,5,1002] [_,.int (k+1:Nat),_] [1] U6 rfl ⟨Z7,trivial⟩ ?_)
    exact YE (k+1,v2,bs++([(⟨(ge ((ge ((ge d.frames q).hyps) k).text) 1),(ge es k).drop 1⟩:Bd)])) [0,1,2,3,5,4] ⟨oz,by rw[Zdp,←f1_2];simp[Zqn,hb2],ZK f1_3 e5⟩
 ·
  try simp at hb1
  have e6:∀ j,j< (ge d.frames q).hyps.length→Ze5 (ge d.frames q).hyps es 0 j=true:=fun j hj=>f1_3 j oz
  refine Zs (nx (Ze (tw (fun h=>ZO hS h (m:=5) (s:=11) rfl) (tw (sa 0 rfl (congrArg (fun z'=>AV.rd (Zea z')) (show bs=(YW (ge d.frames q).hyps es 0 (ge d.frames q).hyps.length)from by rw[f1_2,show k=(ge d.frames q).hyps.length by omega]))) ?_))))
  refine qso tb hJ (r5 [1000]) [_] U6 ?_
  refine ln 0 fun hl5=>?_
  refine Zc (lpo (ι:=Nat) (fun j=>(j≤(ge d.frames q).hyps.length)∧(∀ i',i'<j→ZhB (ge d.frames q).hyps es 0 (YW (ge d.frames q).hyps es 0 (ge d.frames q).hyps.length) i'=true)) (fun _=>[]) (fun j=>[(13,.int (j:Nat))]) (fun j=>(ge d.frames q).hyps.length-j) (r6 []) U5 0 ⟨nzl,fun j hj=>by omega⟩ ?_)
  rintro j ⟨f2_1,f2_2⟩
  refine Ze (ZG tb hJ (r6 [1004]) (V3 [.int (((ge d.frames q).hyps).length:Nat),_]) [3] U7 rfl ⟨Z3 Zz,trivial⟩ ?_)
  refine cj 6 (fun hb4=>?_) fun hb4=>?_
  ·
   try simp at hb4
   refine Zb (nx (Ze (Zc (ZG tb hJ (r6 [1021]) (V3 [.ptr (hyC (ge ((ge d.frames q).hyps) j)),_,_,_,_,_,_,_,.ptr (hyC (ge ((ge d.frames q).hyps) j)),_,_,_,_,_,.ptr [Zf (ge es j)],_,.bool (Zqz ((ge ((ge d.frames q).hyps) j).text) (YW (ge d.frames q).hyps es 0 (ge d.frames q).hyps.length) (ge es j)),_,_]) [3,11,17,19] U7 rfl ⟨iIx Zo,gIx Zo (hk:=fun(hc':((!((ge ((ge d.frames q).hyps) j).floating))==true)=true)=>by(try simp at hc');first | omega | (simp;omega) | grind[Zu]),gIx ZF (hk:=fun(hc':((!((ge ((ge d.frames q).hyps) j).floating))==true)=true)=>by(try simp at hc');first | omega | (simp;omega) | grind[Zu]),iFo hS hJ (ZwZ hJ ((ge ((ge d.frames q).hyps) j).text) (YW (ge d.frames q).hyps es 0 (ge d.frames q).hyps.length) (ge es j)) Ztd,trivial⟩ ?_))))
   refine cj 6 (fun hb5=>?_) fun hb5=>?_
   ·
    have e7:ZhB (ge d.frames q).hyps es 0 (YW (ge d.frames q).hyps es 0 (ge d.frames q).hyps.length) j=false:=by simp only[ZhB,Nat.zero_add];simpa using hb5
    have eU:(Zcj d.vars (ge d.frames i).wide (ge d.frames q) es)=([],25):=ux_25 e6 oz e7
    refine qso tb hJ [1000,1001] U2 U2 ?_
    exact tw (fun h=>Yb h (m:=0) (s:=8) rfl) (ZA (fun a w h=>Y0 (m:=0) (k:=1) rfl (ZW h) rfl rfl (congrArg (fun z=>AV.rd (Zf z)) (show([]:List BA)=((Zcj d.vars (ge d.frames i).wide (ge d.frames q) es).1)from by first | (rw[eU];done) | (rw[eU,if_neg (by simp[e9])]))) (eI (by first | (rw[eU];done) | (rw[eU,if_neg (by simp[e9])])))))
   ·
    refine Zb (nx (Yo tb hJ (r5 [1002]) [_,.int (j+1:Nat),_] [1] U6 rfl ⟨Z7,trivial⟩ ?_))
    exact YE (j+1) (r6 []) ⟨oz,ZK f2_2 (by cases h9:(ge (ge d.frames q).hyps j).floating<;>simp_all[ZhB])⟩
  ·
   try simp at hb4
   have e8:∀ j,j< (ge d.frames q).hyps.length→ZhB (ge d.frames q).hyps es 0 (YW (ge d.frames q).hyps es 0 (ge d.frames q).hyps.length) j=true:=fun j hj=>f2_2 j oz
   refine Zs (nx (ZG tb hJ [0,1,2,4,1001,1005,1007,1008] (V3 [.tup [.rd (Zf (if ZaS (Z1 (YW (ge d.frames q).hyps es 0 (ge d.frames q).hyps.length)) ((ge d.frames q).text) 2000 then XQ (Z1 (YW (ge d.frames q).hyps es 0 (ge d.frames q).hyps.length)) ((ge d.frames q).text)else [])),.int (if ZaS (Z1 (YW (ge d.frames q).hyps es 0 (ge d.frames q).hyps.length)) ((ge d.frames q).text) 2000 then 0 else 15)],_,_,_,_,_]) [3] U8 rfl ⟨iFo hS hJ (ZmN hJ ((ge d.frames q).text) (YW (ge d.frames q).hyps es 0 (ge d.frames q).hyps.length) 2000 sfz (Zdo (fun t ht=>(het t ht).2) oz)) Ztc,trivial⟩ ?_))
   refine ln 4 fun hl6=>?_
   refine ln 5 fun hl7=>?_
   refine Ze (qso tb hJ [0,1,2,3,6,7,1001] U2 U7 ?_)
   refine cj 6 (fun hb6=>?_) fun hb6=>?_
   ·
    try simp at hb6
    have e9:ZaS (Z1 (YW (ge d.frames q).hyps es 0 (ge d.frames q).hyps.length)) (ge d.frames q).text 2000=false:=by cases h9:ZaS (Z1 (YW (ge d.frames q).hyps es 0 (ge d.frames q).hyps.length)) (ge d.frames q).text 2000<;>simp_all
    have eU:(Zcj d.vars (ge d.frames i).wide (ge d.frames q) es)=([],15):=ux_15 e6 e8 e9
    refine qso tb hJ [1001,1002] U3 U2 ?_
    exact tw (fun h=>Yb h (m:=0) (s:=8) rfl) (ZA (fun a w h=>Y0 (m:=0) (k:=1) rfl (ZW h) rfl rfl (congrArg (fun z=>AV.rd (Zf z)) (show([]:List BA)=((Zcj d.vars (ge d.frames i).wide (ge d.frames q) es).1)from by first | (rw[eU];done) | (rw[eU,if_neg (by simp[e9])]))) (eI (by first | (rw[eU];done) | (rw[eU,if_neg (by simp[e9])])))))
   ·
    try simp at hb6
    have e9:ZaS (Z1 (YW (ge d.frames q).hyps es 0 (ge d.frames q).hyps.length)) (ge d.frames q).text 2000=true:=by cases h9:ZaS (Z1 (YW (ge d.frames q).hyps es 0 (ge d.frames q).hyps.length)) (ge d.frames q).text 2000<;>simp_all
    refine tw (sa 4 rfl (show(.rd (Zf (if ZaS (Z1 (YW (ge d.frames q).hyps es 0 (ge d.frames q).hyps.length)) ((ge d.frames q).text) 2000 then XQ (Z1 (YW (ge d.frames q).hyps es 0 (ge d.frames q).hyps.length)) ((ge d.frames q).text)else [])):AV)= .rd (Zf (XQ (Z1 (YW (ge d.frames q).hyps es 0 (ge d.frames q).hyps.length)) (ge d.frames q).text))from by rw[if_pos e9])) (Zb (nx (ln 4 fun hl8=>?_)))
    refine Ze (Ze (fun a w h=>YF (γ:=Nat) (fun ix'=>([.rd (Zea (YW (ge d.frames q).hyps es 0 (ge d.frames q).hyps.length)),.ptr [YV ((ge d.frames q).apart),Zf ((ge d.frames q).text),Y1 ((ge d.frames q).dummies),YV ((ge d.frames q).wide),Zf ((ge d.frames q).proof)],.rd (YV ((ge d.frames q).apart)),.ptr [Zf d.vars,Zb9 d.frames],.rd (Zf d.vars),.ptr [Zb9 d.frames],.rd (Zb9 d.frames),.int (i:Nat),.ptr (frC (ge d.frames i)),.ptr [YV ((ge d.frames i).wide),Zf ((ge d.frames i).proof)],.rd (YV ((ge d.frames i).wide)),.tup [.agg (prC (Zes (YW (ge d.frames q).hyps es 0 (ge d.frames q).hyps.length) ((ge d.frames q).apart) d.vars ((ge d.frames i).wide))),.bool (Zd9 (YW (ge d.frames q).hyps es 0 (ge d.frames q).hyps.length) ((ge d.frames q).apart) d.vars ((ge d.frames i).wide))],.tup [.agg (prC (Zes (YW (ge d.frames q).hyps es 0 (ge d.frames q).hyps.length) ((ge d.frames q).apart) d.vars ((ge d.frames i).wide))),.bool (Zd9 (YW (ge d.frames q).hyps es 0 (ge d.frames q).hyps.length) ((ge d.frames q).apart) d.vars ((ge d.frames i).wide))],.agg (prC (Zes (YW (ge d.frames q).hyps es 0 (ge d.frames q).hyps.length) ((ge d.frames q).apart) d.vars ((ge d.frames i).wide))),.bool (Zd9 (YW (ge d.frames q).hyps es 0 (ge d.frames q).hyps.length) ((ge d.frames q).apart) d.vars ((ge d.frames i).wide)),.any,.any,.bool (Zd9 (YW (ge d.frames q).hyps es 0 (ge d.frames q).hyps.length) ((ge d.frames q).apart) d.vars ((ge d.frames i).wide))]:List AV).getD ix' .any) (fun _=>true) [(14,fun _=>.rd (Zf (XQ (Z1 (YW (ge d.frames q).hyps es 0 (ge d.frames q).hyps.length)) (ge d.frames q).text))),(17,fun _=>.bool (Zd9 (YW (ge d.frames q).hyps es 0 (ge d.frames q).hyps.length) ((ge d.frames q).apart) d.vars ((ge d.frames i).wide)))] (fun j' g=>match j' with | 0=>[] | 1=>[OB.var g [lS (⟨#[]⟩:BA),lS (⟨#[]⟩:BA)]] | _=>[OB.var g (prC (Zes (YW (ge d.frames q).hyps es 0 (ge d.frames q).hyps.length) ((ge d.frames q).apart) d.vars ((ge d.frames i).wide)))]) (fun k' g=>match k' with | 0=>(.pointer (some ⟨g,0,none⟩)) | _=>undef) [15,16] 2 0 (fun _=>rfl) h hJ Yr rfl rfl rfl rfl rfl rfl hsb ⟨?_,?_,?_,?_,?_,?_,?_,?_,?_,?_,?_,?_,?_,?_,?_,?_,?_,?_,trivial⟩ ⟨?e18_2_0,?e18_2_1,trivial⟩ ⟨.old 4 14 _,.new 17 17 _,trivial⟩ ?n18_2))
    exact oX rfl fun hx hl=>Z2 rfl (hl.env 0 11 _ rfl rfl) hx
    exact oX rfl fun hx hl=>ZN Zcd rfl (hl.env 1 10 _ rfl rfl) hx
    exact oX rfl fun hx hl=>ZH Zga rfl (hl.D 1 119 rfl rfl) hx
    exact oX rfl fun hx hl=>ZN ZdN rfl (hl.env 3 4 _ rfl rfl) hx
    exact oX rfl fun hx hl=>ZH Xg rfl (hl.D 3 121 rfl rfl) hx
    exact oX rfl fun hx hl=>ZN Qi rfl (hl.env 3 4 _ rfl rfl) hx
    exact oX rfl fun hx hl=>ZH ZeX rfl (hl.D 5 123 rfl rfl) hx
    exact oX rfl fun hx hl=>Z2 rfl (hl.env 2 1 _ rfl rfl) hx
    exact oX rfl fun hx hl=>ZQ (i:=(i:Int)) ZV rfl (hl.D 6 124 rfl rfl) (hl.D 7 125 rfl rfl) nnn (Z0 (xs:=d.frames) (k:=i) sfz) rfl hx
    exact oX rfl fun hx hl=>ZN Zcb rfl (hl.D 8 126 rfl rfl) hx
    exact oX rfl fun hx hl=>ZH Zga rfl (hl.D 9 127 rfl rfl) hx
    exact oY rfl fun hk hx hl=>ZaY (Zqk hJ (YW (ge d.frames q).hyps es 0 (ge d.frames q).hyps.length) ((ge d.frames q).apart) d.vars ((ge d.frames i).wide) (by exact hap) (Zdo (fun t ht=>(het t ht).2) oz)) Ztb rfl (Zq hS _ hk hx) (hx.1) (Za (hl.D 0 118 rfl rfl) (Za (hl.D 2 120 rfl rfl) (Za (hl.D 4 122 rfl rfl) (Za (hl.D 10 128 rfl rfl) Zg)))) (jo hJ hx)
    exact oX rfl fun hx hl=>Z2 rfl (hl.D 11 129 rfl rfl) hx
    exact oX rfl fun hx hl=>YT rfl (hl.D 12 117 rfl rfl) rfl hx
    exact oX rfl fun hx hl=>YT rfl (hl.D 12 117 rfl rfl) rfl hx
    exact Zl rfl
    exact Zl rfl
    exact oX rfl fun hx hl=>XW rfl (hl.D 14 131 rfl rfl) hx
    case e18_2_0=>exact⟨_,rfl,rfl,rfl,rfl,fun g _ w hk hx _ _=>Zx (ZaQ XL hJ rfl hk hx) fun v w' ⟨g',hv,hp⟩=>⟨g',rfl,fun k' hk'=>absurd hk' (Nat.not_lt_zero _),fun _=>hv,hp⟩⟩
    case e18_2_1=>exact⟨_,rfl,rfl,rfl,rfl,fun g a w hk hx hl hs=>(by obtain⟨us2,hv2,hr3⟩:=Q3 (hl.D 13 130 rfl rfl);exact Zx (Xl (S':=S) (off:=0) (news:=U2) (es:=U2) (us:=us2) hJ hJ0 YK rfl hk hx (Zcs (hs 0 15 _ 16 oz rfl rfl rfl)) (by rw[hv2];rfl) hr3 (lb rfl) rfl) fun v w' hp=>⟨g,rfl,fun _ _=>rfl,fun e=>(by cases e),hp⟩)⟩
    clear a w h
    intro b3
    dsimp only[List.map]
    refine kw ZM (nx (ln 0 fun hl9=>?_))
    refine qso tb hJ [0,1000] [_] U2 ?_
    refine cj 1 (fun hb7=>?_) fun hb7=>?_
    ·
     try simp at hb7
     have eU:(Zcj d.vars (ge d.frames i).wide (ge d.frames q) es)=([],26):=ux_26 e6 e8 e9 hb7
     refine qso tb hJ [1000,1001] U2 U2 ?_
     exact tw (fun h=>Yb h (m:=0) (s:=8) rfl) (ZA (fun a w h=>Y0 (m:=0) (k:=1) rfl (ZW h) rfl rfl (congrArg (fun z=>AV.rd (Zf z)) (show([]:List BA)=((Zcj d.vars (ge d.frames i).wide (ge d.frames q) es).1)from by first | (rw[eU];done) | (rw[eU,if_neg (by simp[e9])]))) (eI (by first | (rw[eU];done) | (rw[eU,if_neg (by simp[e9])])))))
    ·
     try simp at hb7
     have eU:(Zcj d.vars (ge d.frames i).wide (ge d.frames q) es)=(XQ (Z1 (YW (ge d.frames q).hyps es 0 (ge d.frames q).hyps.length)) (ge d.frames q).text,0):=ux_ok e6 e8 e9 hb7
     refine Zb (nx (qso tb hJ [1001,1002] U3 U2 ?_))
     exact ZA (fun a w h=>Y0 (m:=0) (k:=1) rfl (ZW h) rfl rfl (congrArg (fun z=>AV.rd (Zf z)) (show(XQ (Z1 (YW (ge d.frames q).hyps es 0 (ge d.frames q).hyps.length)) (ge d.frames q).text)=((Zcj d.vars (ge d.frames i).wide (ge d.frames q) es).1)from by first | (rw[eU];done) | (rw[eU,if_neg (by simp[e9])]))) (eI (by first | (rw[eU];done) | (rw[eU,if_neg (by simp[e9])]))))
theorem ZwW (d:Db) (i:Nat) (r:Ri) (gw:Value) (gv:List (List BA)) (sk:List (List BA)) (hi:i<d.frames.length) (hc:Zaz d=0) (hgb:r.unk=false→0≤r.back→r.back<gv.length) (hsk:∀ t∈sk,1≤t.length∧t.length≤2000) (hap:∀ f∈d.frames,f.apart.length≤100000):FnR prog J 45 [OB.row gw 22 1 (gv.map Zn)] [.agg (dbC d),.int (i:Nat),.agg (riC r),.lit gw,.rd (Ye sk)] (.tup [.rd (Zf ((Xh d i r gv sk).1.1)),.rd (Ye ((Xh d i r gv sk).1.2)),.int ((Xh d i r gv sk).2)]):=by
 refine fER Tryz.func45 fun S w0 hS hJ0 hH=>?_
 refine tw ZR (ln 4 fun hl1=>?_)
 refine ZG tb hJ [1,3,4,1000,1001] [.ptr (dbC d),.ptr (riC r),_,_,_] [0,1] U5 rfl ⟨iBo hS hJ,iBo hS hJ,trivial⟩ ?_
 refine Ze (ZG tb hJ (r5 [1001]) [.ptr [lB r.unk],_] [0] U6 rfl ⟨fun _ _ _ hx hl _=>ZN ZmA rfl (hl.env 4 7 _ rfl rfl) hx,trivial⟩ ?_)
 refine cj 5 (fun hb1=>?_) fun hb1=>?_
 ·
  try simp at hb1
  have eU:Xh d i r gv sk=(([],[]),27):=by rw[Xh,if_pos hb1]
  refine qso tb hJ [1000,1001,1002] U3 U3 ?_
  refine tw (fun h=>Yb h (m:=0) (s:=10) rfl) (tw (fun h=>Yb h (m:=1) (s:=11) rfl) ?_)
  exact ZA (fun a w h=>Zao (m:=1) (k:=0) (l:=2) rfl (ZW h) rfl rfl rfl (congrArg (fun z=>AV.rd (Zf z)) (show([]:List BA)=((Xh d i r gv sk).1.1)from by rw[eU])) (congrArg (fun z=>AV.rd (Ye z)) (show([]:List (List BA))=((Xh d i r gv sk).1.2)from by rw[eU])) (eI (by rw[eU])))
 ·
  try simp at hb1
  refine Zb (nx (Ze (ZG tb hJ (r5 [1002]) [.ptr [lI r.back,lB r.unk],_,_] [0] U6 rfl ⟨fun _ _ _ hx hl _=>ZN Zgg rfl (hl.env 4 7 _ rfl rfl) hx,trivial⟩ ?_)))
  refine cj 5 (fun hb2=>?_) fun hb2=>?_
  ·
   try simp at hb2
   have e9:=hgb (by simpa using hb1) hb2
   have eU:Xh d i r gv sk=((ge gv r.back.toNat,sk),0):=by rw[Xh,if_neg (by simp[hb1]),if_pos hb2]
   refine ZG tb hJ [1004,1006,1007,1008] [_,.ptr [lI r.back,lB r.unk],_,.lit (Y8 gw (r.back.toNat*1)),.rd (Zf (ge gv r.back.toNat)),_,_,_,_] [1,3,4] U4 rfl ⟨fun _ _ _ hx hl _=>ZN Zgg rfl (hl.env 4 7 _ rfl rfl) hx,fun _ _ hk hx hl _=>YP (i:=r.back) ZF rfl (Yc hH hk hx (mo 0 rfl)) (hl.D 0 24 rfl rfl) (hl.D 2 26 rfl rfl) sfz (by rw[List.length_map];exact sfz) hx,fun _ _ hk hx hl _=>XV (i:=r.back.toNat) Xg rfl (Yc hH hk hx (mo 0 rfl)) (hl.D 3 27 rfl rfl) (Qq (xs:=gv) (k:=r.back.toNat) sfz) hx,trivial⟩ ?_
   refine ln 0 fun hl2=>?_
   exact ZA (fun a w h=>Zao (m:=1) (k:=2) (l:=3) rfl (ZW h) rfl rfl rfl (congrArg (fun z=>AV.rd (Zf z)) (show(ge gv r.back.toNat)=((Xh d i r gv sk).1.1)from by rw[eU])) (congrArg (fun z=>AV.rd (Ye z)) (show sk=((Xh d i r gv sk).1.2)from by rw[eU])) (eI (by rw[eU])))
  ·
   try simp at hb2
   refine Zb (nx (Ze (Ze (fun a w h=>YF (γ:=Nat) (fun ix'=>([.ptr [Zb9 d.frames],.rd (Zb9 d.frames),.int (i:Nat),.ptr (frC (ge d.frames i)),.agg (frC (ge d.frames i)),.ptr (riC r),.str r.label,.tup [.agg (hyC ((QF (ge d.frames i) r.label).getD default)),.bool ((QF (ge d.frames i) r.label).isSome)],.tup [.agg (hyC ((QF (ge d.frames i) r.label).getD default)),.bool ((QF (ge d.frames i) r.label).isSome)],.agg (hyC ((QF (ge d.frames i) r.label).getD default)),.bool ((QF (ge d.frames i) r.label).isSome),.any,.any,.bool ((QF (ge d.frames i) r.label).isSome)]:List AV).getD ix' .any) (fun _=>true) [(1,fun _=>.int (i:Nat)),(4,fun _=>.rd (Ye sk)),(5,fun _=>.ptr (dbC d)),(7,fun _=>.ptr (riC r)),(13,fun g=>.at g 0),(14,fun _=>.bool ((QF (ge d.frames i) r.label).isSome))] (fun j' g=>match j' with | 0=>[] | 1=>[OB.var g [lS (⟨#[]⟩:BA),lB false,Zf ([]:List BA)]] | _=>[OB.var g (hyC ((QF (ge d.frames i) r.label).getD default))]) (fun k' g=>match k' with | 0=>(.pointer (some ⟨g,0,none⟩)) | _=>undef) [11,12] 2 0 (fun _=>rfl) h hJ Yr rfl rfl rfl rfl rfl rfl hsb ⟨?_,?_,?_,?_,?_,?_,?_,?_,?_,?_,?_,?_,?_,?_,trivial⟩ ⟨?e5_1_0,?e5_1_1,trivial⟩ ⟨.old 0 1 _,.old 2 4 _,.old 3 5 _,.old 4 7 _,.eff 0 11 13 (fun g=>(.pointer (some ⟨g,0,none⟩))) rfl rfl (fun _=>rfl) (fun _=>True.intro),.new 13 14 _,trivial⟩ ?n5_1))))
   exact oX rfl fun hx hl=>ZN Qi rfl (hl.env 3 5 _ rfl rfl) hx
   exact oX rfl fun hx hl=>ZH ZeX rfl (hl.D 0 31 rfl rfl) hx
   exact oX rfl fun hx hl=>Z2 rfl (hl.env 0 1 _ rfl rfl) hx
   exact oX rfl fun hx hl=>ZQ (i:=(i:Int)) ZV rfl (hl.D 1 32 rfl rfl) (hl.D 2 33 rfl rfl) nnn (Z0 (xs:=d.frames) (k:=i) sfz) rfl hx
   exact oX rfl fun hx hl=>ZaN Zev rfl (hl.D 3 34 rfl rfl) nlr hx
   exact oX rfl fun hx hl=>ZN Zgh rfl (hl.env 4 7 _ rfl rfl) hx
   exact oX rfl fun hx hl=>ZH QU rfl (hl.D 5 36 rfl rfl) hx
   exact oY rfl fun hk hx hl=>ZaY (c_HypR hJ (ge d.frames i) r.label) Zwu rfl (Zq hS _ hk hx) (hx.1) (Za (hl.D 4 35 rfl rfl) (Za (hl.D 6 37 rfl rfl) Zg)) (jo hJ hx)
   exact oX rfl fun hx hl=>Z2 rfl (hl.D 7 38 rfl rfl) hx
   exact oX rfl fun hx hl=>YT rfl (hl.D 8 30 rfl rfl) rfl hx
   exact oX rfl fun hx hl=>YT rfl (hl.D 8 30 rfl rfl) rfl hx
   exact Zl rfl
   exact Zl rfl
   exact oX rfl fun hx hl=>XW rfl (hl.D 10 40 rfl rfl) hx
   case e5_1_0=>exact⟨_,rfl,rfl,rfl,rfl,fun g _ w hk hx _ _=>Zx (ZaQ YI hJ rfl hk hx) fun v w' ⟨g',hv,hp⟩=>⟨g',rfl,fun k' hk'=>absurd hk' (Nat.not_lt_zero _),fun _=>hv,hp⟩⟩
   case e5_1_1=>exact⟨_,rfl,rfl,rfl,rfl,fun g _ w hk hx hl hs=>(by obtain⟨us2,hv2,hr3⟩:=Q3 (hl.D 9 39 rfl rfl);exact Zx (Xl (S':=S) (off:=0) (news:=U3) (es:=U3) (us:=us2) hJ hJ0 YN rfl hk hx (Zcs (hs 0 11 _ 13 oz rfl rfl rfl)) (by rw[hv2];rfl) hr3 (lb rfl) rfl) fun v w' hp=>⟨g,rfl,fun _ _=>rfl,fun e=>(by cases e),hp⟩)⟩
   clear a w h
   intro b1
   dsimp only[List.map]
   refine kw (fun h=>YJ hS h (m:=4) (s:=13) rfl) (nx (qso tb hJ (r5 [1000]) [_] U6 ?_))
   refine cj 5 (fun hb3=>?_) fun hb3=>?_
   ·
    try simp at hb3
    have eU:Xh d i r gv sk=((((QF (ge d.frames i) r.label).getD default).text,sk),0):=by rw[Xh,if_neg (by simp[hb1]),if_neg oz];cases h9:QF (ge d.frames i) r.label with | some y=>rfl | none=>rw[h9]at hb3;cases hb3
    refine qso tb hJ [1001,1003,1004,1005] U6 U4 ?_
    refine ln 0 fun hl3=>?_
    exact ZA (fun a w h=>Zao (m:=1) (k:=2) (l:=3) rfl (ZW h) rfl rfl rfl (congrArg (fun z=>AV.rd (Zf z)) (show(((QF (ge d.frames i) r.label).getD default).text)=((Xh d i r gv sk).1.1)from by rw[eU])) (congrArg (fun z=>AV.rd (Ye z)) (show sk=((Xh d i r gv sk).1.2)from by rw[eU])) (eI (by rw[eU])))
   ·
    try simp at hb3
    have e3:QF (ge d.frames i) r.label=none:=by cases h9:QF (ge d.frames i) r.label with | none=>rfl | some y=>rw[h9]at hb3;cases hb3
    refine Zb (nx (ZG tb hJ [1,2,3,1005] [_,_,.ptr (riC r),_,.int (Z9 d i r.label),_] [2,4] U4 rfl ⟨fun _ _ _ hx hl _=>ZN Zgh rfl (hl.env 4 7 _ rfl rfl) hx,iFo hS hJ (Ztv hJ d i r.label oz) Zwt,trivial⟩ ?_))
    refine Ze (qso tb hJ [0,1,2,3,1001] U2 U5 ?_)
    refine cj 4 (fun hb4=>?_) fun hb4=>?_
    ·
     try simp at hb4
     have eU:Xh d i r gv sk=(([],[]),22):=by rw[Xh,if_neg (by simp[hb1]),if_neg oz,e3];exact if_pos hb4
     refine qso tb hJ [1000,1001,1002] U3 U3 ?_
     refine tw (fun h=>Yb h (m:=0) (s:=10) rfl) (tw (fun h=>Yb h (m:=1) (s:=11) rfl) ?_)
     exact ZA (fun a w h=>Zao (m:=1) (k:=0) (l:=2) rfl (ZW h) rfl rfl rfl (congrArg (fun z=>AV.rd (Zf z)) (show([]:List BA)=((Xh d i r gv sk).1.1)from by rw[eU])) (congrArg (fun z=>AV.rd (Ye z)) (show([]:List (List BA))=((Xh d i r gv sk).1.2)from by rw[eU])) (eI (by rw[eU])))
    ·
     try simp at hb4
     have e4:=ZtD (d:=d) (i:=i) (s:=r.label) oz
     have e5:=(XJ hc _ (Zu e4.2.2)).1
     have e6:(ge d.frames (Z9 d i r.label).toNat).hyps.length≤2000:=e5.1
     refine tw (sa 3 rfl (show(.int (Z9 d i r.label):AV)= .int ((Z9 d i r.label).toNat:Nat)from congrArg AV.int oz)) (Zb (nx (ZG tb hJ [0,1,2,3,1003,1007,1010] [_,.int (sk.length:Nat),_,_,_,.ptr (frC (ge d.frames ((Z9 d i r.label).toNat))),_,_,.int (((ge d.frames ((Z9 d i r.label).toNat)).hyps).length:Nat),.int ((sk.length:Int)-((((ge d.frames ((Z9 d i r.label).toNat)).hyps).length:Nat):Int)),_] [1,5,8,9] U7 rfl ⟨Z3 Y9,iIx ZV,Z3 Zz,ZvR,trivial⟩ ?_)))
     refine ln 4 fun hl4=>?_
     refine ln 5 fun hl5=>?_
     refine Ze (qso tb hJ [0,1,2,3,6,1001] U2 U6 ?_)
     refine cj 5 (fun hb5=>?_) fun hb5=>?_
     ·
      try simp at hb5
      have eU:Xh d i r gv sk=(([],[]),23):=by rw[Xh,if_neg (by simp[hb1]),if_neg oz,e3];exact(if_neg oz).trans (if_pos oz)
      refine qso tb hJ [1000,1001,1002] U3 U3 ?_
      refine tw (fun h=>Yb h (m:=0) (s:=10) rfl) (tw (fun h=>Yb h (m:=1) (s:=11) rfl) ?_)
      exact ZA (fun a w h=>Zao (m:=1) (k:=0) (l:=2) rfl (ZW h) rfl rfl rfl (congrArg (fun z=>AV.rd (Zf z)) (show([]:List BA)=((Xh d i r gv sk).1.1)from by rw[eU])) (congrArg (fun z=>AV.rd (Ye z)) (show([]:List (List BA))=((Xh d i r gv sk).1.2)from by rw[eU])) (eI (by rw[eU])))
     ·
      try simp at hb5
      have eU:Xh d i r gv sk=(((Zcj d.vars (ge d.frames i).wide (ge d.frames (Z9 d i r.label).toNat) (sk.drop (sk.length-(ge d.frames (Z9 d i r.label).toNat).hyps.length))).1,sk.take (sk.length-(ge d.frames (Z9 d i r.label).toNat).hyps.length)),(Zcj d.vars (ge d.frames i).wide (ge d.frames (Z9 d i r.label).toNat) (sk.drop (sk.length-(ge d.frames (Z9 d i r.label).toNat).hyps.length))).2):=by rw[Xh,if_neg (by simp[hb1]),if_neg oz,e3];exact(if_neg oz).trans (if_neg oz)
      refine tw (sa 4 rfl (show(.int ((sk.length:Int)-((((ge d.frames ((Z9 d i r.label).toNat)).hyps).length:Nat):Int)):AV)= .int ((sk.length-(ge d.frames (Z9 d i r.label).toNat).hyps.length):Nat)from congrArg AV.int oz)) (Zb (nx (ZG tb hJ [1,4,1005,1008,1010,1011] (V5 [.rd (Ye (sk.drop (sk.length-(ge d.frames (Z9 d i r.label).toNat).hyps.length))),.tup [.rd (Zf ((Zcj d.vars (ge d.frames i).wide (ge d.frames ((Z9 d i r.label).toNat)) (sk.drop (sk.length-(ge d.frames (Z9 d i r.label).toNat).hyps.length))).1)),.int ((Zcj d.vars (ge d.frames i).wide (ge d.frames ((Z9 d i r.label).toNat)) (sk.drop (sk.length-(ge d.frames (Z9 d i r.label).toNat).hyps.length))).2)],_,_,_,_,_]) [5,6] U6 rfl ⟨fun _ _ _ hx hl _=>Yy (ys:=sk.drop (sk.length-(ge d.frames (Z9 d i r.label).toNat).hyps.length)) (lo:=(sk.length-(ge d.frames (Z9 d i r.label).toNat).hyps.length)) (hi:=sk.length) (by rw[List.take_length]) ZF (fun _=>rfl) rfl (hl.D 3 68 rfl rfl) (hl.D 4 69 rfl rfl) rfl sfz sfz hx,iFo hS hJ (c_UseR hJ d i ((Z9 d i r.label).toNat) (sk.drop (sk.length-(ge d.frames (Z9 d i r.label).toNat).hyps.length)) sfz (by exact e4.2.2) (by rw[List.length_drop];omega) (by exact fun t ht=>hsk t (List.mem_of_mem_drop ht)) (by exact e5.2) (by exact hap _ (Zu e4.2.2)) (by exact e5.1)) Zws,trivial⟩ ?_)))
      refine ln 2 fun hl6=>?_
      refine ln 3 fun hl7=>?_
      refine ZG tb hJ [1003,1005,1006,1007] (V3 [.rd (Ye (sk.take (sk.length-(ge d.frames (Z9 d i r.label).toNat).hyps.length))),_,_,_,_]) [3] U4 rfl ⟨fun _ _ _ hx hl _=>Yy (ys:=sk.take (sk.length-(ge d.frames (Z9 d i r.label).toNat).hyps.length)) (lo:=0) (hi:=(sk.length-(ge d.frames (Z9 d i r.label).toNat).hyps.length)) List.drop_zero ZF (fun _=>rfl) rfl (hl.D 1 75 rfl rfl) rfl (hl.D 2 76 rfl rfl) sfz sfz hx,trivial⟩ ?_
      refine ln 0 fun hl8=>?_
      exact ZA (fun a w h=>Zao (m:=1) (k:=2) (l:=3) rfl (ZW h) rfl rfl rfl (congrArg (fun z=>AV.rd (Zf z)) (show((Zcj d.vars (ge d.frames i).wide (ge d.frames ((Z9 d i r.label).toNat)) (sk.drop (sk.length-(ge d.frames (Z9 d i r.label).toNat).hyps.length))).1)=((Xh d i r gv sk).1.1)from by rw[eU])) (congrArg (fun z=>AV.rd (Ye z)) (show(sk.take (sk.length-(ge d.frames (Z9 d i r.label).toNat).hyps.length))=((Xh d i r gv sk).1.2)from by rw[eU])) (eI (by rw[eU])))
end
end Go.Proofs.YtneapgbkkkjagaaGreatDoor
