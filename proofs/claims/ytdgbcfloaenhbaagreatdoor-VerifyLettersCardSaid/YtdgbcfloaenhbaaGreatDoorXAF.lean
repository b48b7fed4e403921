/-
  THE ENGINE: a store into a part of an element of an own row; texts one behind the other.
  LETTERS, ONE BY ONE (plain): what the reference's loop knows.
  CONTRACTS of the reference: letters.
  CONTRACTS of the program: the letters are collected.
  CONTRACTS of the program: letters, guarded.
  CONTRACTS of the program: letters.
  THE LAW VerifyLetters returns true.
-/
import Derived.Test.YtdgbcfloaenhbaaGreatDoorXAE
import Derived.Laws.Concat
import Derived.Test.YtdgbcfloaenhbaaGreatDoorXAD
namespace Go.Proofs.YtdgbcfloaenhbaaGreatDoor
open Go.RowKit
section
variable {n:Rn} {N:Nat} {P:Program} {J X:World→Prop} {S S' S'':Nat→Prop} {O:List OB} {w0:World} {env:List (Nat×AV)} {Q:Exit→Act→World→Prop}
variable {o:Oper} {a:Act} {w:World} {x y:Operand} {t e:TypeId} {v:Value} {k:Nat} {rows:List (List CD)}
theorem Zmd {c:CD} {r:List CD} {i j:Nat} (hJ:Stab J) (hJ0:J w0) (hs:XG P t 1) (hop:o.op= .store t x y) (hk0:Keeps All w0 w) (hx:XO J S w0.heap.size (OB.row v e k rows::O) w) (h1:Rel S' w (.lit (Xh v (i*k+j))) (a.eval x))
 (h2:Rel (SO S (OB.row v e k rows::O)) w (.rd c) (a.eval y)) (hrow:rows[i]?=some r) (hj:j<r.length):
 Z4 n P o a w fun _ w'=>Zat J S w0 (OB.row v e k rows::O) w (OB.row v e k (rows.set i (r.set j c))::O) w':=by
 have hl:i<rows.length:=(List.getElem?_eq_some_iff.1 hrow).1
 obtain⟨g,cap,old,cur,rfl,hlo,hg,hnc,hcm,hcs,htake,hul,hrd,hlen⟩:=Zah (hx.2.1 (OB.row v e k rows) (by simp)) (by omega)
 simp only[Rel]at h2
 have hv:(a.eval y).cells.toList=[a.eval y]:=by rw[ZbS h2.one]
 have hge:rows[i]=r:=(List.getElem?_eq_some_iff.1 hrow).2
 have hrk:r.length=k:=hlen r (hge▸List.getElem_mem hl)
 have hik:i*k+j+1≤rows.length*k:=by
  have:=Nat.mul_le_mul_right k hl
  rw[Nat.succ_mul]at this
  omega
 have hset:(rows.set i (r.set j c)).flatten=rows.flatten.take (i*k+j)++[c]++rows.flatten.drop (i*k+j+1):=by
  have hd:rows.flatten.drop (i*k)=r++rows.flatten.drop (i*k+k):=by
   rw[ZaQ rows i hlen,List.drop_eq_getElem_cons hl,hge,List.flatten_cons,show i*k+k=(i+1)*k by rw[Nat.add_mul];omega,ZaQ rows (i+1) hlen]
  have hd2:rows.flatten.drop (i*k+j+1)=r.drop (j+1)++rows.flatten.drop (i*k+k):=by
   rw[show i*k+j+1=i*k+(j+1) by omega,←List.drop_drop,hd,List.drop_append_of_le_length (by omega)]
  have hd3:rows.flatten.take (i*k+j)=rows.flatten.take (i*k)++r.take j:=by
   rw[List.take_add,hd,List.take_append_of_le_length (by omega)]
  rw[Zix rows i (r.set j c) hlen hl,hd3,hd2,List.set_eq_take_append_cons_drop,if_pos hj]
  simp
 have hlen':∀ q∈rows.set i (r.set j c),q.length=k:=fun q hq=>by
  rcases List.mem_or_eq_of_mem_set hq with h | rfl
  · exact hlen q h
  · rw[List.length_set];exact hrk
 generalize hp:i*k+j=p at*
 have hrc:rows.length*k≤cap*k:=Nat.mul_le_mul_right k hnc
 have hr:RdL (SO S (OB.row (.slice (some ⟨g,0,none⟩) rows.length cap) e k rows::O)) w [c] [a.eval y]:=⟨h2,trivial⟩
 have hrun:=Qs (P:=P) (ty:=t) (o:=p) (cur:=cur.toList) (t:=e) hv (by simpa using hs) (by simpa using hg) (by simp;omega) hr.one
 have hlt:g<w.heap.size:=(Array.getElem?_eq_some_iff.1 hg).1
 have hk:Keeps (fun b=>¬ (OB.row (.slice (some ⟨g,0,none⟩) rows.length cap) e k rows).blk b) w (w.setRow g (cur.toList.take p++[a.eval y]++cur.toList.drop (p+ [a.eval y].length)).toArray):=
  (QO (g:=g)).sub fun b _ hb e=>hb (by simp[OB.row,Value.ownBlock,e])
 have hsub:∀ b,b<w.heap.size→SO S (OB.row (.slice (some ⟨g,0,none⟩) rows.length cap) e k rows::O) b→(¬ (OB.row (.slice (some ⟨g,0,none⟩) rows.length cap) e k rows).blk b)∧SO S (OB.row (.slice (some ⟨g,0,none⟩) rows.length cap) e k (rows.set i (r.set j c))::O) b:=fun b _ hs=>⟨hs.2 (OB.row (.slice (some ⟨g,0,none⟩) rows.length cap) e k rows) (by simp),hs.1,fun p hp=>by
  rcases List.mem_cons.1 hp with rfl | hp
  · exact hs.2 (OB.row (.slice (some ⟨g,0,none⟩) rows.length cap) e k rows) (by simp)
  · exact hs.2 p (List.mem_cons_of_mem _ hp)⟩
 refine ZaT (w':=w.setRow g (cur.toList.take p++[a.eval y]++cur.toList.drop (p+ [a.eval y].length)).toArray) ?_ (Zag hJ hJ0 hk0 hx hk (fun b hb=>.inl hb) ⟨old.take p++[a.eval y]++old.drop (p+1),⟨?_,.inr ⟨g,cap,_,?_,hlo,setRow_heap w g _ _ e _ hg,?_,hcm,?_,?_⟩⟩,?_,hlen'⟩)
 · have hv':=h1.lit
   simp only[Xh]at hv'
   rw[execOp,hop]
   simp only[hv',Sem.run_bind,hrun]
   rfl
 · simp;omega
 · simp
 · simpa using hnc
 · simp;omega
 · simp only[List.length_set]
   rw[←htake]
   exact ZhR cur.toList p (rows.length*k) [a.eval y] (by simpa using hik) (by simp;omega)
 · rw[hset]
   exact(((hrd.take p).move hk hsub).append (hr.move hk hsub)).append ((hrd.drop (p+1)).move hk hsub)
theorem Zjb {ops:Array Oper} {rest:List Oper} {c:CD} {r:List CD} {i j:Nat} (hJ:Stab J) (hJ0:J w0) (hs:XG P t 1) (hg:o.guard=none) (hd:o.dst=none) (hop:o.op= .store t x y) (hrow:rows[i]?=some r) (hj:j<r.length)
 (h1:∀ a w,St All (SO S (OB.row v e k rows::O)) w0 N env (XO J S w0.heap.size (OB.row v e k rows::O)) a w→Rel (SO S (OB.row v e k rows::O)) w (.lit (Xh v (i*k+j))) (a.eval x)∧Rel (SO S (OB.row v e k rows::O)) w (.rd c) (a.eval y))
 (next:∀ a w,St All (SO S (OB.row v e k (rows.set i (r.set j c))::O)) w0 N env (XO J S w0.heap.size (OB.row v e k (rows.set i (r.set j c))::O)) a w→wpListIn n.F n.d P ops Q rest a w):
 ∀ a w,St All (SO S (OB.row v e k rows::O)) w0 N env (XO J S w0.heap.size (OB.row v e k rows::O)) a w→wpListIn n.F n.d P ops Q (o::rest) a w:=
 Zea (O2:=fun _:Unit=>_) hg hd (fun a w h=>by
  obtain⟨g1,g2⟩:=h1 a w h
  exact Zr (Zmd hJ hJ0 hs hop h.keep h.x g1 g2 hrow hj) fun _ _ hp=>⟨(),hp⟩) fun _=>next
end
theorem r_addS {n:Rn} {P:Program} {X:World→Prop} {S:Nat→Prop} {o:Oper} {a:Act} {w:World} {x y:Operand} {t u:TypeId} {i j:ByteArray} (hop:o.op= .binOp .add t x y u) (h1:Rel S w (.str i) (a.eval x)) (h2:Rel S w (.str j) (a.eval y)) (hl:i.size+j.size≤9223372036854775807) (hx:X w):Z4 n P o a w (Yp S X (.str (i++j)) w):=
 Zaw (v:=.string (i++j)) (show(i++j).size≤maxLen by rw[ByteArray.size_append];exact hl) (Q2 ..) (by simp only[binOp];exact run_string_add_sum w i j hl) hop h1 h2 hx
theorem Zdo {J:World→Prop} {S:Nat→Prop} {N:Nat} {P:Program} {w0:World} {env:List (Nat×AV)} {fn:Func} {t u x m k l:Nat} {a1 a2 a3 r1 r2 r3:AV} {a:Act} {w:World} (hr:fn.results= #[.tmp t,.tmp u,.tmp x]) (h:St All S w0 N env J a w) (he:env[m]?=some (t,a1)) (he2:env[k]?=some (u,a2)) (he3:env[l]?=some (x,a3)) (hE:a1=r1) (hE2:a2=r2) (hE3:a3=r3):bodyPost P fn (fun e w'=>∃ v,e= .returned v∧Rel S w' (.tup [r1,r2,r3]) v∧Keeps All w0 w'∧J w') .ret a w:=by
 subst hE;subst hE2;subst hE3
 exact⟨h.defs,.tuple #[a.tmps.getD t undef,a.tmps.getD u undef,a.tmps.getD x undef],by simp[results,hr,Sem.run_pure],_,rfl,by simp only[Rel,RelL];exact⟨_,rfl,_,_,rfl,h.get m he,_,_,rfl,h.get k he2,_,_,rfl,h.get l he3,rfl⟩,h.keep,h.x⟩
theorem ZeV {J:World→Prop} {S:Nat→Prop} {N:Nat} {P:Program} {w0:World} {O:List OB} {env:List (Nat×AV)} {fn:Func} {a:Act} {w:World} {b b2:Nat} {c1 c2:CD} {t t2:TypeId} {d m q u x z:Nat} {a1 a2 a3 r3:AV} (hr:fn.results= #[.cell d t,.cell u t2,.tmp x]) (h1:XX P t) (h2:XX P t2) (h:St All (SO S (OB.var b [c1]::OB.var b2 [c2]::O)) w0 N env (XO J S w0.heap.size (OB.var b [c1]::OB.var b2 [c2]::O)) a w) (he:env[m]?=some (d,.at b 0)) (he2:env[q]?=some (u,.at b2 0)) (he3:env[z]?=some (x,r3)) (hE1:AV.rd c1=a1) (hE2:AV.rd c2=a2) (hE3:r3=a3):
 bodyPost P fn (fun e w'=>∃ v,e= .returned v∧Rel S w' (.tup [a1,a2,a3]) v∧Keeps All w0 w'∧J w') .ret a w:=by
 subst hE1
 subst hE2
 subst hE3
 obtain⟨h0,us,e,hb,hrd⟩:=h.x.2.1 (OB.var b [c1]) (by simp)
 obtain⟨g0,vs,e',gb,grd⟩:=h.x.2.1 (OB.var b2 [c2]) (by simp)
 match us,hrd,vs,grd with
 | [v1],hrd,[v2],grd=>
  have hd:a.tmps.getD d undef= .pointer (some ⟨b,0,none⟩):=(h.get m he).lit
  have hu:a.tmps.getD u undef= .pointer (some ⟨b2,0,none⟩):=(h.get q he2).lit
  have hd':a.tmps[d]?.getD undef= .pointer (some ⟨b,0,none⟩):=by rw[←Array.getD_eq_getD_getElem?];exact hd
  have hu':a.tmps[u]?.getD undef= .pointer (some ⟨b2,0,none⟩):=by rw[←Array.getD_eq_getD_getElem?];exact hu
  have hcell1:w.cell? ⟨b,0,none⟩=some v1:=by simp[World.cell?,hb]
  have hcell2:w.cell? ⟨b2,0,none⟩=some v2:=by simp[World.cell?,gb]
  have hz:=(h.get z he3).sub (T:=S) fun _ _ hk=>hk.1
  refine⟨h.defs,.tuple #[v1,v2,a.tmps.getD x undef],by simp[results,hr,hd',hu',asAddr,Sem.run_bind,loadVar,h1 w,h2 w,hcell1,hcell2],_,rfl,?_,h.keep,h.x.1⟩
  simp only[Rel,RelL]
  exact⟨_,rfl,_,_,rfl,hrd.1.sub fun _ _ hk=>hk.1,_,_,rfl,grd.1.sub fun _ _ hk=>hk.1,_,_,rfl,hz,rfl⟩
end Go.Proofs.YtdgbcfloaenhbaaGreatDoor
namespace Go.Proofs.YtdgbcfloaenhbaaGreatDoor
def Zpf (D:List UInt8) (i:Nat) (out:List Lt) (n:Int) (ins fresh:Bool):Prop:=
 (fresh=true→ins=false∧n=0∧∃ pre x,out=pre++[⟨x,false⟩]∧lettersD D 0 false=if i<D.length∧(ge D i).toNat=90 then(pre++⟨x,true⟩::(lettersD (D.drop (i+1)) 0 false).1,(lettersD (D.drop (i+1)) 0 false).2)else(out++(lettersD (D.drop i) 0 false).1,(lettersD (D.drop i) 0 false).2))∧
 (fresh=false→lettersD D 0 false=(out++(lettersD (D.drop i) n ins).1,(lettersD (D.drop i) n ins).2))
section
variable {D:List UInt8} {i:Nat} {out:List Lt} {n:Int} {ins fresh:Bool}
theorem ZjB:Zpf D 0 [] 0 false false:=⟨fun h=>(by cases h),fun _=>by simp⟩
theorem Qw (h:Zpf D i out n ins fresh) (hc:¬ (i<D.length∧(ge D i).toNat=90)):lettersD D 0 false=(out++(lettersD (D.drop i) n ins).1,(lettersD (D.drop i) n ins).2):=by
 cases hf:fresh with
 | false=>exact h.2 hf
 | true=>
  obtain⟨h1,h2,pre,x,h3,h4⟩:=h.1 hf
  subst h1
  subst h2
  rw[if_neg hc]at h4
  exact h4
theorem Zol (h:Zpf D i out n ins fresh) (hi:¬ i<D.length):lettersD D 0 false=(out,ins):=by
 rw[Qw h (fun e=>hi e.1),Zhg hi]
 simp
variable (h:Zpf D i out n ins fresh) (hi:i<D.length)
include h hi
theorem invR_A (h1:65≤(ge D i).toNat∧(ge D i).toNat≤84) (h2:¬ 1000000<20*n+(((ge D i).toNat:Int)-65)+1):Zpf D (i+1) (out++[⟨20*n+(((ge D i).toNat:Int)-65)+1,false⟩]) 0 false true:=by
 have hb:=Qw h (fun e=>by omega)
 refine⟨fun _=>⟨rfl,rfl,out,_,rfl,?_⟩,fun e=>by cases e⟩
 by_cases h4:i+1<D.length∧(ge D (i+1)).toNat=90
 · rw[if_pos h4,hb,let_Z hi (by omega) h1 h2 h4.1 h4.2]
 · rw[if_neg h4,hb,let_N hi (by omega) h1 h2 h4]
   simp
theorem Zom (h1:65≤(ge D i).toNat∧(ge D i).toNat≤84) (h2:1000000<20*n+(((ge D i).toNat:Int)-65)+1):(lettersD D 0 false).2=true:=by
 rw[Qw h (fun e=>by omega),ZlD hi (by omega) h1 h2]
theorem invR_U (h1:85≤(ge D i).toNat∧(ge D i).toNat≤89) (h2:¬ 1000000<5*n+(((ge D i).toNat:Int)-85)+1):Zpf D (i+1) out (5*n+(((ge D i).toNat:Int)-85)+1) true false:=by
 refine⟨fun e=>(by cases e),fun _=>?_⟩
 rw[Qw h (fun e=>by omega),Zn9 hi h1,if_neg h2]
theorem ZlR (h1:85≤(ge D i).toNat∧(ge D i).toNat≤89) (h2:1000000<5*n+(((ge D i).toNat:Int)-85)+1):(lettersD D 0 false).2=true:=by
 rw[Qw h (fun e=>by omega),Zn9 hi h1,if_pos h2]
theorem invR_Z (h1:(ge D i).toNat=90) (hf:fresh=true):0<out.length∧Zpf D (i+1) (out.set (out.length-1) ⟨(ge out (out.length-1)).number,true⟩) n ins false:=by
 obtain⟨h5,h6,pre,x,h3,h4⟩:=h.1 hf
 rw[h5,h6]
 rw[if_pos ⟨hi,h1⟩]at h4
 subst h3
 refine⟨by simp,fun e=>(by cases e),fun _=>?_⟩
 have e1:(pre++[(⟨x,false⟩:Lt)]).length-1=pre.length:=by simp
 have e2:ge (pre++[(⟨x,false⟩:Lt)]) pre.length=⟨x,false⟩:=by simp[ge]
 rw[e1,e2,h4]
 simp
theorem ZlQ (h1:(ge D i).toNat=90) (hf:fresh=false):(lettersD D 0 false).2=true:=by
 rw[h.2 hf,Zhh hi (by omega) (by omega) (by omega)]
theorem invR_Q (h1:(ge D i).toNat=63) (h2:ins=false):Zpf D (i+1) (out++[⟨0,false⟩]) n ins false:=by
 refine⟨fun e=>(by cases e),fun _=>?_⟩
 rw[Qw h (fun e=>by omega),let_Q hi (by omega) (by omega) h1 h2]
 simp
theorem Ziq (h1:¬ (65≤(ge D i).toNat∧(ge D i).toNat≤84)) (h2:¬ (85≤(ge D i).toNat∧(ge D i).toNat≤89)) (h3:¬ (ge D i).toNat=90) (h4:¬ ((ge D i).toNat=63∧ins=false)):(lettersD D 0 false).2=true:=by
 rw[Qw h (fun e=>h3 e.2),Zhh hi h2 h1 h4]
end
theorem idx_mem {l:List ByteArray} {s:ByteArray}:0≤Z9 (isV s) l↔s∈l:=by
 constructor
 · intro h
   have h1:=Qx (p:=isV s) (xs:=l) (by omega)
   have h2:s=ge l (Z9 (isV s) l).toNat:=by simpa [isV]using h1.2.2.1
   rw[h2]
   exact ZM h1.2.1
 · intro h
   have h2:=ZbO (isV s) l
   have h3:l.any (isV s)=true:=List.any_eq_true.2 ⟨s,h,by simp[isV]⟩
   rw[h3]at h2
   simpa using h2
def Zrx (l:List ByteArray):ByteArray:=l.foldl (fun a b=>a++b) ⟨#[]⟩
theorem ZiF {l:List ByteArray} {k:Nat} (h:k<l.length):Zrx (l.take (k+1))=Zrx (l.take k)++ge l k:=Zdu h
theorem ZiI (l:List ByteArray):(Zrx l).data.toList=(l.map (·.data.toList)).flatten:=by
 have key:∀(l:List ByteArray) (a:ByteArray),(l.foldl (fun a b=>a++b) a).data.toList=a.data.toList++(l.map (·.data.toList)).flatten:=by
  intro l
  induction l with
  | nil=>intro a;simp
  | cons x r ih=>intro a;rw[List.foldl_cons,ih];simp
 exact(key l ⟨#[]⟩).trans (by simp)
theorem Zgd:∀ l:List (List UInt8),Lib.join l []=l.flatten
 | []=>rfl
 | x::r=>by rw[Lib.join_cons,Lib.joinTail];simp
theorem ZiH (l:List ByteArray):ZaO l ⟨#[]⟩=Zrx l:=by
 unfold ZaO
 have h:Lib.join (l.map (·.data.toList)) (⟨#[]⟩:ByteArray).data.toList=(Zrx l).data.toList:=by
  rw[ZiI]
  exact Zgd _
 rw[h]
theorem ZiG (l:List ByteArray):(Zrx l).size=Zaf l:=by
 have h:=congrArg List.length (ZiI l)
 rw[←Zgd,ZeX]at h
 exact h
theorem Zkv (l:List ByteArray) (k:Nat):Zaf (l.take k)≤Zaf l:=by
 have h:Zaf (l.take k++l.drop k)=Zaf (l.take k)+Zaf (l.drop k):=by
  unfold Zaf
  rw[List.map_append,List.sum_append]
 rw[List.take_append_drop]at h
 omega
abbrev endL (t:List ByteArray):Nat:=(Z9 (isV ⟨#[41]⟩) t).toNat
abbrev ZjX (t:List ByteArray):List ByteArray:=(t.take (endL t)).drop 1
abbrev Zff (t:List ByteArray):ByteArray:=ZaO (t.drop (endL t+1)) ⟨#[]⟩
def Xp (t:List ByteArray):List ByteArray×List Lt×Int:=
 if Qn t=true then
  match XL t with
  | none=>([],[],20)
  | some z=>if XY z.1=true then([],[],20)else if(Zv z.2).2=true then([],[],21)else if 2000< (Zv z.2).1.length then([],[],10)else(z.1,(Zv z.2).1,0)
 else([],[],2)
theorem le_2 {t:List ByteArray} (h:Qn t=false):Xp t=([],[],2):=by
 unfold Xp
 rw[if_neg (by simp[h])]
section
variable {t:List ByteArray} (h0:Qn t=true)
include h0
theorem Zq7 (h:XL t=none):Xp t=([],[],20):=by
 unfold Xp
 rw[if_pos h0,h]
variable {z:List ByteArray×ByteArray} (hz:XL t=some z)
include hz
theorem Zim (h:XY z.1=true):Xp t=([],[],20):=by
 unfold Xp
 rw[if_pos h0,hz]
 exact if_pos h
variable (h1:XY z.1=false)
include h1
theorem Zq9:Xp t=if(Zv z.2).2=true then([],[],21)else if 2000< (Zv z.2).1.length then([],[],10)else(z.1,(Zv z.2).1,0):=by
 unfold Xp
 rw[if_pos h0,hz]
 exact if_neg (by simp[h1])
theorem le_21 (h:(Zv z.2).2=true):Xp t=([],[],21):=by rw[Zq9 h0 hz h1,if_pos h]
variable (h2:(Zv z.2).2=false)
include h2
theorem le_10 (h:2000< (Zv z.2).1.length):Xp t=([],[],10):=by rw[Zq9 h0 hz h1,if_neg (by simp[h2]),if_pos h]
theorem le_ok (h:¬ 2000< (Zv z.2).1.length):Xp t=(z.1,(Zv z.2).1,0):=by rw[Zq9 h0 hz h1,if_neg (by simp[h2]),if_neg h]
end
theorem ZmT {l:List ByteArray}:(l.any fun w=>!QN w)= !l.all QN:=by
 induction l with
 | nil=>rfl
 | cons x r ih=>rw[List.any_cons,List.all_cons,ih,Bool.not_and]
theorem ZlG {t:List ByteArray} (h1:¬ Z9 (isV ⟨#[41]⟩) t<0) (h2:(ZjX t).all QN=true):XL t=some (ZjX t,Zff t):=Zic h1 (by rw[ZmT,h2];rfl)
theorem le_bad {t:List ByteArray} (h0:Qn t=true) (h:Z9 (isV ⟨#[41]⟩) t<0∨(ZjX t).all QN=false∨XY (ZjX t)=true):Xp t=([],[],20):=by
 by_cases h1:Z9 (isV ⟨#[41]⟩) t<0
 · exact Zq7 h0 (Zid h1)
 by_cases h2:(ZjX t).all QN=true
 · refine Zim h0 (ZlG h1 h2) ?_
   rcases h with h | h | h
   · exact absurd h h1
   · rw[h2]at h;cases h
   · exact h
 · exact Zq7 h0 (ZfL h1 (by rw[ZmT];simpa using h2))
theorem Zq8 {t:List ByteArray} (h0:Qn t=true) (h:((decide (Z9 (isV ⟨#[41]⟩) t<0)|| !((ZjX t).all QN))||XY (ZjX t))=true):Xp t=([],[],20):=by
 refine le_bad h0 ?_
 rw[Bool.or_eq_true,Bool.or_eq_true,decide_eq_true_eq,Bool.not_eq_true']at h
 rcases h with(h | h) | h
 · exact .inl h
 · exact .inr (.inl h)
 · exact .inr (.inr h)
theorem Zoa {t:List ByteArray} (h:((decide (Z9 (isV ⟨#[41]⟩) t<0)|| !((ZjX t).all QN))||XY (ZjX t))=false):¬ Z9 (isV ⟨#[41]⟩) t<0∧XL t=some (ZjX t,Zff t)∧XY (ZjX t)=false:=by
 rw[Bool.or_eq_false_iff,Bool.or_eq_false_iff,decide_eq_false_iff_not]at h
 obtain⟨⟨h1,h2⟩,h3⟩:=h
 have h4:(ZjX t).all QN=true:=by cases h5:(ZjX t).all QN with
  | true=>rfl
  | false=>rw[h5]at h2;cases h2
 exact⟨h1,ZlG h1 h4,h3⟩
theorem ZmO (t:List ByteArray) (k:Nat):(ZaO (t.drop k) ⟨#[]⟩).size≤Zaf t:=by
 rw[ZiH,ZiG]
 exact Zc5 t k
theorem ZkJ {S:Nat→Prop} {w:World} {v:Value} {i:Int} (h0:0≤i) (h:Rel S w (.int i) v):Rel S w (.int ((i.toNat:Nat):Int)) v:=by
 rw[Int.toNat_of_nonneg h0]
 exact h
end Go.Proofs.YtdgbcfloaenhbaaGreatDoor
set_option maxHeartbeats 8000000
set_option maxRecDepth 100000
namespace Go.Proofs.YtdgbcfloaenhbaaGreatDoor
open Go.RowKit
theorem ZmD:Zp Tryz.prog 24:=Zt Tryz.func24 rfl rfl
theorem Zr3:Zp Tryz.prog 39:=Zt Tryz.func39 rfl rfl
theorem Qb:Yd Tryz.prog 30 37 2:=⟨by kernel_rfl,fun w=>by kernel_rfl⟩
theorem ZgB:ZcD Tryz.prog 37 [.int .i64 0,.bool false]:=⟨fun i=>(#[(0,1),(1,1)]:Array (Nat×Nat))[i]?,fun j hj=>by rcases j with _ | _ | j<;>first | rfl | (simp at hj;omega),fun parts=>by kernel_rfl⟩
theorem Zka:ZcJ Tryz.prog 37:=⟨.agg #[.int .i64 0,.bool false],fun w=>by kernel_rfl⟩
theorem ZgL:Zfr Tryz.prog 30 37 2 16:=ZpY (.agg #[.int .i64 0,.bool false]) (by kernel_rfl) (by kernel_rfl) rfl (by decide) (fun w=>by kernel_rfl)
theorem Zb2:Tryz.prog.underlying 30=some (.slice 37):=by kernel_rfl
theorem ZjR:ZT Tryz.prog 37 1 1:=fun b off w=>by kernel_rfl
theorem Zse:Zp Tryz.prog 23:=Zt Tryz.func23 rfl rfl
theorem Zsd:Zp Tryz.prog 25:=Zt Tryz.func25 rfl rfl
theorem Zsc:Zp Tryz.prog 26:=Zt Tryz.func26 rfl rfl
theorem Zsa:Zp Tryz.prog 28:=Zt Tryz.func28 rfl rfl
theorem Zsb:Zp Tryz.prog 27:=Zt Tryz.func27 rfl rfl
theorem Zgz {J:World→Prop} (hJ:Stab J) (l:List ByteArray)  :Fn Tryz.prog J 23 [.rd (Zb l)] (.bool (Qn l)):=by
 refine Zw (N:=12) Tryz.func23 rfl rfl (lb rfl) fun S w0 hS hJ0=>?_
 clear hJ0
 refine ln 0 fun hl1=>?_
 refine qs tb hJ [0] [_] [_] ?_
 refine hqs tb hJ [1009] [_,.int (l.length:Nat),_,_,_,.ptr [.lit (.string (ge l 0))],_,_,_,_] [1,5] [_] rfl ⟨YK Zx,gIx (k:=0) Zi (hk:=fun(hc':((decide ((0:Int)< (l.length:Int)))==true)=true)=>by(try simp at hc');first | omega | (simp;omega) | grind[ZM]),trivial⟩ ?_
 exact Zg (rtn (m:=0) rfl rfl (eB (by unfold Qn;by_cases h9:0<l.length<;>simp[h9])))
theorem ZmJ {J:World→Prop} (hJ:Stab J) (xs:List ByteArray) (s:ByteArray)  :Fn Tryz.prog J 24 [.rd (Zb xs),.str s] (.int (Z9 (isV s) xs)):=by
 refine Zw (N:=19) Tryz.func24 rfl rfl (lb rfl) fun S w0 hS hJ0=>?_
 clear hJ0
 refine ln 0 fun hl1=>?_
 refine qs tb hJ [0,1] [_] [_,_] ?_
 refine Zk (qs tb hJ [0,1,1000] [_] [_,_,_] ?_)
 refine Zf (lp (ι:=Nat) (fun k=>(k≤xs.length)∧(∀ j,j<k→isV s (ge xs j)=false)) (fun k=>[(5,.int (k:Nat))]) (fun k=>xs.length-k) [0,1,2] [_,_] 0 ⟨Nat.zero_le _,fun j hj=>by omega⟩ ?_)
 rintro k ⟨f1_1,f1_2⟩
 refine Zk (hqs tb hJ [0,1,2,1003] [_,_,.int (xs.length:Nat),_] [2] [_,_,_,_] rfl ⟨YK Zx,trivial⟩ ?_)
 refine cj 3 (fun hb1=>?_) fun hb1=>?_
 try simp at hb1
 refine Zc (nx (Zk (Zf (hqs tb hJ [0,1,2,1005] [_,_,.ptr [.lit (.string (ge xs k))],_,_,_] [2] [_,_,_,_] rfl ⟨iIx Zi,trivial⟩ ?_))))
 refine cj 3 (fun hb2=>?_) fun hb2=>?_
 try simp at hb2
 refine qs tb hJ [1001] [_,_] [_] ?_
 exact Zg (rtn (m:=0) rfl rfl (eI (by first | exact(Xa hb1 (by simp only[isV,decide_eq_true_eq];exact hb2.symm) f1_2).symm | exact(YH fun j hj=>f1_2 j (by omega)).symm)))
 try simp at hb2
 refine Zc (nx (hqp tb hJ [0,1,1002] [_,.int (k+1:Nat),_] [1] [_,_,_] rfl ⟨Yw,trivial⟩ ?_))
 exact lpE (k+1) [0,1,2] ⟨by omega,ZZ f1_2 (by simp only[isV,decide_eq_false_iff_not];exact fun e=>hb2 e.symm)⟩
 try simp at hb1
 refine ZB (nx (qs tb hJ [1000] [_] [_] ?_))
 exact Zg (rtn (m:=0) rfl rfl (eI (by first | exact(Xa hb1 (by simp only[isV,decide_eq_true_eq];exact hb2.symm) f1_2).symm | exact(YH fun j hj=>f1_2 j (by omega)).symm)))
theorem Zsl {J:World→Prop} (hJ:Stab J) (l:List ByteArray)  :Fn Tryz.prog J 26 [.rd (Zb l)] (.bool (XY l)):=by
 refine Zw (N:=19) Tryz.func26 rfl rfl (lb rfl) fun S w0 hS hJ0=>?_
 clear hJ0
 refine ln 0 fun hl1=>?_
 refine qs tb hJ [0] [_] [_] ?_
 refine Zk (qs tb hJ [0,1000] [_] [_,_] ?_)
 refine Zf (lp (ι:=Nat) (fun k=>(k≤l.length)∧(∀ j,j<k→¬ ge l j∈l.take j)) (fun k=>[(3,.int (k:Nat))]) (fun k=>l.length-k) [0,1] [_] 0 ⟨Nat.zero_le _,fun j hj=>by omega⟩ ?_)
 rintro k ⟨f1_1,f1_2⟩
 refine Zk (hqs tb hJ [0,1,1003] [_,_,.int (l.length:Nat),_] [2] [_,_,_] rfl ⟨YK Zx,trivial⟩ ?_)
 refine cj 2 (fun hb1=>?_) fun hb1=>?_
 try simp at hb1
 refine Zc (nx (Zk (Zf (hqs tb hJ [0,1,1002,1008] [_,_,.rd (Zb (l.take k)),_,_,.ptr [.lit (.string (ge l k))],_,.int (Z9 (isV (ge l k)) (l.take k)),_] [2,5,7] [_,_,_,_] rfl ⟨fun _ _ _ hx hl _=>Qj (ys:=l.take k) (lo:=0) (hi:=k) List.drop_zero Zi (fun _=>rfl) rfl (hl.D 0 10 rfl rfl) rfl (hl.D 1 11 rfl rfl) sfz sfz hx,iIx Zi,iFn hS hJ (ZmJ hJ (xs:=(l.take k)) (s:=(ge l k)) ) ZmD,trivial⟩ ?_))))
 refine ln 2 fun hl2=>?_
 refine cj 3 (fun hb2=>?_) fun hb2=>?_
 try simp at hb2
 refine qs tb hJ [1000] [_] [_] ?_
 exact Zg (rtn (m:=0) rfl rfl (eB (by first | (rw[Zc4 hb1 (idx_mem.1 (by omega))]) | (rw[ZeA fun j hj=>f1_2 j (by omega)]))))
 try simp at hb2
 refine Zc (nx (hqp tb hJ [0,1002] [_,.int (k+1:Nat),_] [1] [_,_] rfl ⟨Yw,trivial⟩ ?_))
 exact lpE (k+1) [0,1] ⟨by omega,ZZ f1_2 (fun e=>by have h9:=idx_mem.2 e;omega)⟩
 try simp at hb1
 refine ZB (nx (qs tb hJ [1000] [_] [_] ?_))
 exact Zg (rtn (m:=0) rfl rfl (eB (by first | (rw[Zc4 hb1 (idx_mem.1 (by omega))]) | (rw[ZeA fun j hj=>f1_2 j (by omega)]))))
theorem Zo5 {J:World→Prop} (hJ:Stab J) (l:List ByteArray)  :Fn Tryz.prog J 25 [.rd (Zb l)] (.bool (l.all QN)):=by
 refine Zw (N:=16) Tryz.func25 rfl rfl (lb rfl) fun S w0 hS hJ0=>?_
 clear hJ0
 refine ln 0 fun hl1=>?_
 refine qs tb hJ [0] [_] [_] ?_
 refine Zk (qs tb hJ [0,1000] [_] [_,_] ?_)
 refine Zf (lp (ι:=Nat) (fun k=>(k≤l.length)∧(∀ j,j<k→QN (ge l j)=true)) (fun k=>[(3,.int (k:Nat))]) (fun k=>l.length-k) [0,1] [_] 0 ⟨Nat.zero_le _,fun j hj=>by omega⟩ ?_)
 rintro k ⟨f1_1,f1_2⟩
 refine Zk (hqs tb hJ [0,1,1003] [_,_,.int (l.length:Nat),_] [2] [_,_,_] rfl ⟨YK Zx,trivial⟩ ?_)
 refine cj 2 (fun hb1=>?_) fun hb1=>?_
 try simp at hb1
 refine Zc (nx (Zk (Zf (hqs tb hJ [0,1,1005] [_,_,.ptr [.lit (.string (ge l k))],_,.bool (QN (ge l k)),_] [2,4] [_,_,_] rfl ⟨iIx Zi,iFn hS hJ (ZmL hJ (s:=(ge l k)) ) Zr3,trivial⟩ ?_))))
 refine cj 2 (fun hb2=>?_) fun hb2=>?_
 try simp at hb2
 refine qs tb hJ [1000] [_] [_] ?_
 exact Zg (rtn (m:=0) rfl rfl (eB (by first | (rw[Za3 hb1 (by simpa using hb2)]) | (rw[ZmS fun j hj=>f1_2 j (by omega)]))))
 try simp at hb2
 refine Zc (nx (hqp tb hJ [0,1002] [_,.int (k+1:Nat),_] [1] [_,_] rfl ⟨Yw,trivial⟩ ?_))
 exact lpE (k+1) [0,1] ⟨by omega,ZZ f1_2 (by simpa using hb2)⟩
 try simp at hb1
 refine ZB (nx (qs tb hJ [1000] [_] [_] ?_))
 exact Zg (rtn (m:=0) rfl rfl (eB (by first | (rw[Za3 hb1 (by simpa using hb2)]) | (rw[ZmS fun j hj=>f1_2 j (by omega)]))))
theorem Zsm {J:World→Prop} (hJ:Stab J) (l:List ByteArray) (hs:Zaf l≤1000000000):Fn Tryz.prog J 28 [.rd (Zb l)] (.str (ZaO l ⟨#[]⟩)):=by
 refine Zw (N:=18) Tryz.func28 rfl rfl (lb rfl) fun S w0 hS hJ0=>?_
 clear hJ0
 refine ln 0 fun hl1=>?_
 refine qs tb hJ [0] [_] [_] ?_
 refine qs tb hJ [0,1000] [_] [_,_] ?_
 refine Zk (qs tb hJ [0,1,1000] [_] [_,_,_] ?_)
 refine Zf (lp (ι:=Nat×ByteArray) (fun(k,u)=>(k≤l.length)∧(u=Zrx (l.take k))) (fun(k,u)=>[(4,.int (k:Nat)),(3,.str u)]) (fun(k,_)=>l.length-k) [0,2,1] [_] (0,⟨#[]⟩) ⟨Nat.zero_le _,rfl⟩ ?_)
 rintro⟨k,u⟩ ⟨f1_1,f1_2⟩
 refine Zk (hqs tb hJ [0,1,2,1003] [_,_,.int (l.length:Nat),_] [2] [_,_,_,_] rfl ⟨YK Zx,trivial⟩ ?_)
 refine cj 3 (fun hb1=>?_) fun hb1=>?_
 try simp at hb1
 refine Zc (nx (Zk (Zf (hqp tb hJ [0,1,1006] [_,_,_,.ptr [.lit (.string (ge l k))],_,.str (u++(ge l k)),_] [3,5] [_,_,_] rfl ⟨iIx Zi,fun _ _ _ hx hl _=>r_addS rfl (hl.D 0 11 rfl rfl) (hl.D 4 15 rfl rfl) (by have h9:=ZiG (l.take (k+1));rw[ZiF hb1,ByteArray.size_append]at h9;have h8:=Zkv l (k+1);rw[f1_2];omega) hx,trivial⟩ ?_))))
 refine nx (hqp tb hJ [0,2,1002] [_,.int (k+1:Nat),_] [1] [_,_,_] rfl ⟨Yw,trivial⟩ ?_)
 exact lpE (k+1,(u++(ge l k))) [0,2,1] ⟨by omega,by rw[ZiF hb1,f1_2]⟩
 try simp at hb1
 refine ZB (nx (qs tb hJ [1001] [_,_] [_] ?_))
 exact Zg (rtn (m:=0) rfl rfl (eS (by rw[f1_2,ZJ (by omega),ZiH])))
theorem ZmI {J:World→Prop} (hJ:Stab J) (s:ByteArray) (hs:s.size≤1000000000):FnM (ι:= {q:List Lt×Bool // q.2= !(lettersD s.data.toList 0 false).2∧((lettersD s.data.toList 0 false).2=false→q.1=(lettersD s.data.toList 0 false).1)}) Tryz.prog J 27 [] [.str s] [] (fun i'=>.tup [.rd (Ql (i'.1.1)),.bool (i'.1.2)]) (fun _=>[]):=by
 refine Ya (N:=75) Tryz.func27 rfl rfl (lb rfl) fun S w0 R hS hJ0 hH=>?_
 refine Z8 (B:=St All (SO S (R)) w0 75 [(0,.str s)] (XO J S w0.heap.size (R))) ?_ fun a w h=>h
 refine qso tb hJ [0] [_,_] [_] ?_
 refine tsq ?_
 refine ZkB Qb hJ rfl rfl rfl (lb rfl) fun v1=>?_
 refine snK 1 tb rfl ?_
 refine seK [0,2] [_,_] rfl ?_
 refine nx (qso tb hJ [0,1,1000] [_] [_,_,_] ?_)
 refine qso tb hJ [0,1,2,1000] [_] [_,_,_,_] ?_
 refine qso tb hJ [0,1,2,3,1000] [_] [_,_,_,_,_] ?_
 refine Zk (qso tb hJ [0,1,2,3,4,1000] [_] [_,_,_,_,_,_] ?_)
 refine Zf (lpo (ι:=Nat×Int×Bool×Bool×(List Lt)×Value) (fun(p,m,ins,fr,us,_)=>(p≤s.size)∧(0≤m∧m≤1000000)∧(Zpf s.data.toList p us m ins fr)∧(us.length≤p)) (fun(_,_,_,_,us,v)=>(OB.row v 37 2 (us.map ltC)::R)) (fun(p,m,ins,fr,_,v)=>[(8,.int (p:Nat)),(5,.int m),(6,.bool ins),(7,.bool fr),(4,.lit v)]) (fun(p,_,_,_,_,_)=>s.size-p) [1,5,2,3,4,0] [_] (0,0,false,false,([]:List Lt),v1) ⟨Nat.zero_le _,⟨by omega,by omega⟩,ZjB,Nat.zero_le _⟩ ?_)
 rintro⟨p,m,ins,fr,us,v⟩ ⟨f1_1,f1_2,f1_3,f1_4⟩
 refine Zk (ZN tb hJ [0,1,2,3,4,5,1003] [_,_,.int (s.size:Nat),_] [2] [_,_,_,_,_,_,_] rfl ⟨ZpI Yb,trivial⟩ ?_)
 refine cj 6 (fun hb1=>?_) fun hb1=>?_
 try simp at hb1
 have e1:p<s.data.toList.length:=hb1
 refine Zc (nx (Zk (Zf (ZN tb hJ [0,1,2,3,4,5,1003] [_,_,.rd (.lit (.int .u8 ((ge s.data.toList p).toNat:Int))),_] [2] [_,_,_,_,_,_,_] rfl ⟨fun _ _ _ hx hl _=>ZfJ (i:=(p:Int)) Yb rfl (hl.D 0 17 rfl rfl) (hl.D 1 18 rfl rfl) (Int.natCast_nonneg _) (ZbV (s:=s) (k:=p) sfz) hx,trivial⟩ ?_))))
 refine qso tb hJ [0,1,2,3,4,5,6,1005] [_,_,_,_,_,_] [_,_,_,_,_,_,_,_] ?_
 refine cj 7 (fun hb2=>?_) fun hb2=>?_
 try simp at hb2
 have e2:65≤(ge s.data.toList p).toNat∧(ge s.data.toList p).toNat≤84:=by omega
 refine ZN tb hJ [0,1,5,1007] [_,.int ((20:Int)*m),_,.rd (.lit (.int .u8 (((ge s.data.toList p).toNat:Int)-(65:Int)))),.int (((ge s.data.toList p).toNat:Int)-(65:Int)),.int ((20:Int)*m+(((ge s.data.toList p).toNat:Int)-(65:Int))),.int ((20:Int)*m+(((ge s.data.toList p).toNat:Int)-(65:Int))+(1:Int)),_] [1,3,4,5,6] [_,_,_,_] rfl ⟨fun _ _ _ hx hl _=>Znz (i:=(20:Int)) (j:=m) rfl (Rel.of_lit (Go.Value.int Go.IntKind.i64 20)) (hl.D 0 26 rfl rfl) sfz sfz hx,fun _ _ _ hx hl _=>Zh4 (i:=((ge s.data.toList p).toNat:Int)) (j:=(65:Int)) rfl (hl.D 2 28 rfl rfl) (Rel.of_lit (Go.Value.int Go.IntKind.u8 65)) sfz sfz hx,fun _ _ _ hx hl _=>ZcQ (i:=((ge s.data.toList p).toNat:Int)-(65:Int)) ZaC XH rfl (hl.D 3 29 rfl rfl) sfz sfz hx,Yw,Yw,trivial⟩ ?_
 refine Zk (qso tb hJ [0,1,2,3,1001] [_,_] [_,_,_,_,_] ?_)
 refine cj 4 (fun hb3=>?_) fun hb3=>?_
 try simp at hb3
 have e7:=Zom f1_3 e1 e2 (by omega)
 refine qso tb hJ [1000,1001] [_,_] [_,_] ?_
 refine tw (fun h=>YM h (m:=0) (s:=2) rfl) ?_
 refine tw Zy ?_
 exact Zg (fun a w h=>Zbt  (m:=0) (k:=1) ⟨(([]:List Lt),false),by first | exact⟨by rw[e7];rfl,fun h=>by rw[e7]at h;cases h⟩ | exact⟨by rw[e7],fun _=>by rw[e7]⟩⟩ rfl h rfl rfl (Zqh rfl rfl))
 try simp at hb3
 have e5:=invR_A f1_3 e1 e2 (by omega)
 refine Zc (nx (tsq ?_))
 refine snK 2 tb rfl ?_
 refine sq (.agg (ltC (⟨(20:Int)*m+(((ge s.data.toList p).toNat:Int)-(65:Int))+(1:Int),false⟩:Lt))) rfl rfl (lb rfl) (fun a _ h=>Yt (ps:=[(0,a.eval (Go.Operand.tmp 36))]) (us:=[a.eval (Go.Operand.tmp 36),.bool false]) ZgB rfl (by simp) (ZdR (lb rfl) (Rel.oneC (h.get 0 rfl)) Zew) rfl (Zj (h.get 0 rfl) (YD (.lit _ True.intro) ZI)) h.x) ?_
 refine sq (.rd (Ql ([(⟨(20:Int)*m+(((ge s.data.toList p).toNat:Int)-(65:Int))+(1:Int),false⟩:Lt)]))) rfl rfl (lb rfl) (fun _ _ h=>ZbJ Qb Zka (by decide) rfl rfl (h.get 0 rfl) (Zq hS _ h.keep h.x _ (Nat.le_refl _)) (jo hJ h.x)) ?_
 refine YE (f:=ltC) (m:=3) (s:=35) us ([(⟨(20:Int)*m+(((ge s.data.toList p).toNat:Int)-(65:Int))+(1:Int),false⟩:Lt)]) (fun _=>rfl) ZgL hJ hJ0 rfl rfl rfl (lb rfl) rfl rfl (fun a w h=>(h.get 0 rfl)) sfz sfz fun v2=>?_
 refine snK 1 tb rfl ?_
 refine seK [0,2,6,7] [_,_,_,_] rfl ?_
 refine nx (ln 1 fun hl1=>?_)
 refine qpo tb hJ [0,2,3,1000,1001,1002] [_,_,_] [_,_,_,_,_,_] ?_
 refine nx (Y3 tb hJ [0,1,3,4,5,1002] [_,.int (p+1:Nat),_] [1] [_,_,_,_,_,_] rfl ⟨Yw,trivial⟩ ?_)
 exact XB (p+1,0,false,true,us++([(⟨(20:Int)*m+(((ge s.data.toList p).toNat:Int)-(65:Int))+(1:Int),false⟩:Lt)]),v2) [1,5,2,3,4,0] ⟨by omega,⟨by omega,by omega⟩,e5,by first | (simp;omega) | omega⟩
 try simp at hb2
 have e2:¬ (65≤(ge s.data.toList p).toNat∧(ge s.data.toList p).toNat≤84):=by omega
 refine qso tb hJ [0,1,2,3,4,5,6,1005] [_,_,_,_,_,_] [_,_,_,_,_,_,_,_] ?_
 refine cj 7 (fun hb4=>?_) fun hb4=>?_
 try simp at hb4
 have e4:85≤(ge s.data.toList p).toNat∧(ge s.data.toList p).toNat≤89:=by omega
 refine ZN tb hJ [0,1,5,1007] [_,.int ((5:Int)*m),_,.rd (.lit (.int .u8 (((ge s.data.toList p).toNat:Int)-(85:Int)))),.int (((ge s.data.toList p).toNat:Int)-(85:Int)),.int ((5:Int)*m+(((ge s.data.toList p).toNat:Int)-(85:Int))),.int ((5:Int)*m+(((ge s.data.toList p).toNat:Int)-(85:Int))+(1:Int)),_] [1,3,4,5,6] [_,_,_,_] rfl ⟨fun _ _ _ hx hl _=>Znz (i:=(5:Int)) (j:=m) rfl (Rel.of_lit (Go.Value.int Go.IntKind.i64 5)) (hl.D 0 46 rfl rfl) sfz sfz hx,fun _ _ _ hx hl _=>Zh4 (i:=((ge s.data.toList p).toNat:Int)) (j:=(85:Int)) rfl (hl.D 2 48 rfl rfl) (Rel.of_lit (Go.Value.int Go.IntKind.u8 85)) sfz sfz hx,fun _ _ _ hx hl _=>ZcQ (i:=((ge s.data.toList p).toNat:Int)-(85:Int)) ZaC XH rfl (hl.D 3 49 rfl rfl) sfz sfz hx,Yw,Yw,trivial⟩ ?_
 refine Zk (qso tb hJ [0,1,2,3,1001] [_,_] [_,_,_,_,_] ?_)
 refine cj 4 (fun hb5=>?_) fun hb5=>?_
 try simp at hb5
 have e7:=ZlR f1_3 e1 e4 (by omega)
 refine qso tb hJ [1000,1001] [_,_] [_,_] ?_
 refine tw (fun h=>YM h (m:=0) (s:=2) rfl) ?_
 refine tw Zy ?_
 exact Zg (fun a w h=>Zbt  (m:=0) (k:=1) ⟨(([]:List Lt),false),by first | exact⟨by rw[e7];rfl,fun h=>by rw[e7]at h;cases h⟩ | exact⟨by rw[e7],fun _=>by rw[e7]⟩⟩ rfl h rfl rfl (Zqh rfl rfl))
 try simp at hb5
 have e5:=invR_U f1_3 e1 e4 (by omega)
 refine Zc (nx (qpo tb hJ [0,1,2,3,1000,1001] [_,_] [_,_,_,_,_,_] ?_))
 refine nx (Y3 tb hJ [0,2,3,4,5,1002] [_,.int (p+1:Nat),_] [1] [_,_,_,_,_,_] rfl ⟨Yw,trivial⟩ ?_)
 exact XB (p+1,(5:Int)*m+(((ge s.data.toList p).toNat:Int)-(85:Int))+(1:Int),true,false,us,v) [0,5,2,3,4,1] ⟨by omega,⟨by omega,by omega⟩,e5,by first | (simp;omega) | omega⟩
 try simp at hb4
 have e4:¬ (85≤(ge s.data.toList p).toNat∧(ge s.data.toList p).toNat≤89):=by omega
 refine qso tb hJ [0,1,2,3,4,5,6,1001] [_,_] [_,_,_,_,_,_,_,_] ?_
 refine cj 7 (fun hb6=>?_) fun hb6=>?_
 try simp at hb6
 have e6:(ge s.data.toList p).toNat=90:=by omega
 refine Zk (qso tb hJ [0,1,2,3,5,1001] [_,_] [_,_,_,_,_,_] ?_)
 refine cj 5 (fun hb7=>?_) fun hb7=>?_
 try simp at hb7
 have e7:=ZlQ f1_3 e1 e6 hb7
 refine qso tb hJ [1000,1001] [_,_] [_,_] ?_
 refine tw (fun h=>YM h (m:=0) (s:=2) rfl) ?_
 refine tw Zy ?_
 exact Zg (fun a w h=>Zbt  (m:=0) (k:=1) ⟨(([]:List Lt),false),by first | exact⟨by rw[e7];rfl,fun h=>by rw[e7]at h;cases h⟩ | exact⟨by rw[e7],fun _=>by rw[e7]⟩⟩ rfl h rfl rfl (Zqh rfl rfl))
 try simp at hb7
 obtain⟨e50,e5⟩:=invR_Z f1_3 e1 e6 (by simpa using hb7)
 refine Zc (nx (tsq ?_))
 refine snK 2 tb rfl ?_
 refine sq (.int (us.length:Nat)) rfl rfl (lb rfl) (fun _ _ h=>ZbG (by rw[List.length_map]) Zb2 rfl (Zd h.x (mo 0 rfl)) (h.get 0 rfl) h.x) ?_
 refine sq (.int (us.length-1:Nat)) rfl rfl (lb rfl) (fun _ _ h=>ZkQ (i:=us.length) (j:=1) rfl (h.get 0 rfl) (Rel.of_lit (Go.Value.int Go.IntKind.i64 1)) sfz sfz h.x) ?_
 refine sq (.lit (Xh v ((us.length-1)*2))) rfl rfl (lb rfl) (fun _ _ h=>YV (i:=((us.length-1:Nat):Int)) Qb rfl (Zd h.x (mo 0 rfl)) (h.get 3 rfl) (h.get 0 rfl) (Int.natCast_nonneg _) (by rw[List.length_map];exact Int.ofNat_lt.2 sfz) h.x) ?_
 refine sq (.lit (Xh v ((us.length-1)*2+1))) rfl rfl (lb rfl) (fun _ _ h=>Zjo ZjR rfl (Zd h.x (mo 0 rfl)) (by rw[List.length_map];exact Nat.lt_of_le_of_lt (Nat.zero_le _) sfz) (h.get 0 rfl) h.x) ?_
 refine Zjb (i:=us.length-1) (j:=1) (c:=.lit (.bool true)) hJ hJ0 Qi rfl rfl rfl (QG (xs:=us) (k:=us.length-1) sfz) (lb rfl) (fun a w h=>⟨(h.get 0 rfl),(Rel.of_lit (Go.Value.bool true))⟩) ?_
 rw[show(us.map ltC).set (us.length-1) ((ltC (ge us (us.length-1))).set 1 (.lit (.bool true)))=(us.set (us.length-1) (⟨(ge us (us.length-1)).number,true⟩:Lt)).map ltC from by rw[List.map_set];rfl]
 refine seK [6,7,8,9,10] [_,_,_,_,_] rfl ?_
 refine nx (qpo tb hJ [0,1,2,3,4,1000] [_] [_,_,_,_,_,_] ?_)
 refine nx (Y3 tb hJ [0,2,3,4,5,1002] [_,.int (p+1:Nat),_] [1] [_,_,_,_,_,_] rfl ⟨Yw,trivial⟩ ?_)
 exact XB (p+1,m,ins,false,us.set (us.length-1) (⟨(ge us (us.length-1)).number,true⟩:Lt),v) [0,5,1,2,4,3] ⟨by omega,⟨by omega,by omega⟩,e5,by first | (simp;omega) | omega⟩
 try simp at hb6
 have e6:¬ (ge s.data.toList p).toNat=90:=by omega
 refine qso tb hJ [0,1,2,3,5,1001] [_,_] [_,_,_,_,_,_] ?_
 refine cj 5 (fun hb8=>?_) fun hb8=>?_
 try simp at hb8
 have e8:(ge s.data.toList p).toNat=63:=by omega
 refine Zk (qso tb hJ [0,1,2,3,4,1000] [_] [_,_,_,_,_,_] ?_)
 refine cj 5 (fun hb9=>?_) fun hb9=>?_
 try simp at hb9
 have e7:=Ziq f1_3 e1 e2 e4 e6 (fun e=>by simp_all)
 refine qso tb hJ [1000,1001] [_,_] [_,_] ?_
 refine tw (fun h=>YM h (m:=0) (s:=2) rfl) ?_
 refine tw Zy ?_
 exact Zg (fun a w h=>Zbt  (m:=0) (k:=1) ⟨(([]:List Lt),false),by first | exact⟨by rw[e7];rfl,fun h=>by rw[e7]at h;cases h⟩ | exact⟨by rw[e7],fun _=>by rw[e7]⟩⟩ rfl h rfl rfl (Zqh rfl rfl))
 try simp at hb9
 have e5:=invR_Q f1_3 e1 e8 (by simpa using hb9)
 refine Zc (nx (tsq ?_))
 refine snK 1 tb rfl ?_
 refine sq (.agg (ltC (⟨0,false⟩:Lt))) rfl rfl (lb rfl) (fun _ _ h=>Yt (ps:=[]) (us:=[.int .i64 0,.bool false]) ZgB rfl (by simp) Zew rfl (YD (.lit _ True.intro) (YD (.lit _ True.intro) ZI)) h.x) ?_
 refine sq (.rd (Ql ([(⟨0,false⟩:Lt)]))) rfl rfl (lb rfl) (fun _ _ h=>ZbJ Qb Zka (by decide) rfl rfl (h.get 0 rfl) (Zq hS _ h.keep h.x _ (Nat.le_refl _)) (jo hJ h.x)) ?_
 refine YE (f:=ltC) (m:=2) (s:=68) us ([(⟨0,false⟩:Lt)]) (fun _=>rfl) ZgL hJ hJ0 rfl rfl rfl (lb rfl) rfl rfl (fun a w h=>(h.get 0 rfl)) sfz sfz fun v3=>?_
 refine snK 1 tb rfl ?_
 refine seK [0,2,5,6,7,8] [_,_,_,_,_,_] rfl ?_
 refine nx (ln 1 fun hl2=>?_)
 refine qpo tb hJ [0,2,3,4,5,1000] [_] [_,_,_,_,_,_] ?_
 refine nx (Y3 tb hJ [0,1,3,4,5,1002] [_,.int (p+1:Nat),_] [1] [_,_,_,_,_,_] rfl ⟨Yw,trivial⟩ ?_)
 exact XB (p+1,m,ins,false,us++([(⟨0,false⟩:Lt)]),v3) [1,5,2,3,4,0] ⟨by omega,⟨by omega,by omega⟩,e5,by first | (simp;omega) | omega⟩
 try simp at hb8
 have e7:=Ziq f1_3 e1 e2 e4 e6 (fun e=>by omega)
 refine qso tb hJ [1000,1001] [_,_] [_,_] ?_
 refine tw (fun h=>YM h (m:=0) (s:=2) rfl) ?_
 refine tw Zy ?_
 exact Zg (fun a w h=>Zbt  (m:=0) (k:=1) ⟨(([]:List Lt),false),by first | exact⟨by rw[e7];rfl,fun h=>by rw[e7]at h;cases h⟩ | exact⟨by rw[e7],fun _=>by rw[e7]⟩⟩ rfl h rfl rfl (Zqh rfl rfl))
 try simp at hb1
 have e1:¬ p<s.data.toList.length:=by have h9:s.size=s.data.toList.length:=rfl;omega
 have e7:=Zol f1_3 e1
 refine ZB (nx (qso tb hJ [1003,1004] [_,_,_,_,_] [_,_] ?_))
 refine tw (fun h=>Yr hS h (m:=0) (s:=2) rfl) ?_
 exact Zg (fun a w h=>Zbt  (m:=0) (k:=1) ⟨(us,!ins),by first | exact⟨by rw[e7];rfl,fun h=>by rw[e7]at h;cases h⟩ | exact⟨by rw[e7],fun _=>by rw[e7]⟩⟩ rfl h rfl rfl (Zqh rfl rfl))
theorem ZmK {J:World→Prop} (hJ:Stab J) (t:List ByteArray) (hn:t.length≤100000) (hs:Zaf t≤1000000000):Fn Tryz.prog J 8 [.rd (Zb t)] (.tup [.rd (Zb ((Xp t).1)),.rd (Ql ((Xp t).2.1)),.int ((Xp t).2.2)]):=by
 refine Zw (N:=48) Tryz.func8 rfl rfl (lb rfl) fun S w0 hS hJ0=>?_
 refine tw Yn ?_
 refine ln 0 fun hl1=>?_
 refine qso tb hJ [0] [_,_,_] [_] ?_
 refine Zk (ZN tb hJ [0,1002] [_,.bool (Qn t),_] [1] [_,_] rfl ⟨iFo hS hJ (Zgz hJ (l:=t) ) Zse,trivial⟩ ?_)
 refine cj 1 (fun hb1=>?_) fun hb1=>?_
 try simp at hb1
 have e7:=le_2 (t:=t) (by simpa using hb1)
 refine qso tb hJ [1000,1001,1002] [_,_,_] [_,_,_] ?_
 refine tw (fun h=>YM h (m:=0) (s:=2) rfl) ?_
 refine tw (fun h=>YM h (m:=1) (s:=3) rfl) ?_
 exact Zg (fun a w h=>Zdo (m:=1) (k:=0) (l:=2) rfl (Xs h) rfl rfl rfl (congrArg (fun z=>AV.rd (Zb z)) (show([]:List ByteArray)=((Xp t).1)from by first | (rw[e7];done) | (rw[e7];rfl) | (rw[e7];exact e6))) (congrArg (fun z=>AV.rd (Ql z)) (show([]:List Lt)=((Xp t).2.1)from by first | (rw[e7];done) | (rw[e7];rfl) | (rw[e7];exact e6))) (eI (by first | (rw[e7];done) | (rw[e7];rfl) | (rw[e7];exact e6))))
 try simp at hb1
 have h0:Qn t=true:=by simpa using hb1
 refine Zc (nx (ZN tb hJ [0,1002] [_,.int (Z9 (isV (⟨#[41]⟩:ByteArray)) t),_] [1] [_,_] rfl ⟨iFo hS hJ (ZmJ hJ (xs:=t) (s:=(⟨#[41]⟩:ByteArray)) ) ZmD,trivial⟩ ?_))
 refine Zk (ZN tb hJ [0,1,1014] [_,_,_,_,_,.rd (Zb ((t.take ((Z9 (isV (⟨#[41]⟩:ByteArray)) t).toNat)).drop 1)),.bool (((t.take ((Z9 (isV (⟨#[41]⟩:ByteArray)) t).toNat)).drop 1).all QN),_,_,_,_,_,.rd (Zb ((t.take ((Z9 (isV (⟨#[41]⟩:ByteArray)) t).toNat)).drop 1)),.bool (XY ((t.take ((Z9 (isV (⟨#[41]⟩:ByteArray)) t).toNat)).drop 1)),_] [5,6,12,13] [_,_,_] rfl ⟨fun _ _ _ hx hl hc=>Qj (ys:=(t.take ((Z9 (isV (⟨#[41]⟩:ByteArray)) t).toNat)).drop 1) (lo:=1) (hi:=(Z9 (isV (⟨#[41]⟩:ByteArray)) t).toNat) rfl Zi (fun _=>rfl) rfl (hl.D 3 16 rfl hc) (Rel.of_lit (Go.Value.int Go.IntKind.i64 1)) (ZkJ (by have hc':((decide (Z9 (isV (⟨#[41]⟩:ByteArray)) t< (0:Int)))==false)=true:=hc;(try simp at hc');(first | omega | (have h9:=hc'.1;omega))) (hl.D 4 17 rfl hc)) (by have hc':((decide (Z9 (isV (⟨#[41]⟩:ByteArray)) t< (0:Int)))==false)=true:=hc;(try simp at hc');(have h8:=Zel h0 (show ¬ Z9 (isV ⟨#[41]⟩) t<0 from by first | omega | (have h9:=hc'.1;omega));omega)) (by have hc':((decide (Z9 (isV (⟨#[41]⟩:ByteArray)) t< (0:Int)))==false)=true:=hc;(try simp at hc');(have h8:=Zel h0 (show ¬ Z9 (isV ⟨#[41]⟩) t<0 from by first | omega | (have h9:=hc'.1;omega));omega)) hx,iFo hS hJ (Zo5 hJ (l:=((t.take ((Z9 (isV (⟨#[41]⟩:ByteArray)) t).toNat)).drop 1)) ) Zsd,fun _ _ _ hx hl hc=>Qj (ys:=(t.take ((Z9 (isV (⟨#[41]⟩:ByteArray)) t).toNat)).drop 1) (lo:=1) (hi:=(Z9 (isV (⟨#[41]⟩:ByteArray)) t).toNat) rfl Zi (fun _=>rfl) rfl (hl.D 10 23 rfl hc) (Rel.of_lit (Go.Value.int Go.IntKind.i64 1)) (ZkJ (by have hc':(((decide (Z9 (isV (⟨#[41]⟩:ByteArray)) t< (0:Int)))|| (!(((t.take ((Z9 (isV (⟨#[41]⟩:ByteArray)) t).toNat)).drop 1).all QN)))==false)=true:=hc;(try simp at hc');(first | omega | (have h9:=hc'.1;omega))) (hl.D 11 24 rfl hc)) (by have hc':(((decide (Z9 (isV (⟨#[41]⟩:ByteArray)) t< (0:Int)))|| (!(((t.take ((Z9 (isV (⟨#[41]⟩:ByteArray)) t).toNat)).drop 1).all QN)))==false)=true:=hc;(try simp at hc');(have h8:=Zel h0 (show ¬ Z9 (isV ⟨#[41]⟩) t<0 from by first | omega | (have h9:=hc'.1;omega));omega)) (by have hc':(((decide (Z9 (isV (⟨#[41]⟩:ByteArray)) t< (0:Int)))|| (!(((t.take ((Z9 (isV (⟨#[41]⟩:ByteArray)) t).toNat)).drop 1).all QN)))==false)=true:=hc;(try simp at hc');(have h8:=Zel h0 (show ¬ Z9 (isV ⟨#[41]⟩) t<0 from by first | omega | (have h9:=hc'.1;omega));omega)) hx,iFo hS hJ (Zsl hJ (l:=((t.take ((Z9 (isV (⟨#[41]⟩:ByteArray)) t).toNat)).drop 1)) ) Zsc,trivial⟩ ?_)
 refine cj 2 (fun hb2=>?_) fun hb2=>?_
 have e7:=Zq8 h0 hb2
 refine qso tb hJ [1000,1001,1002] [_,_,_] [_,_,_] ?_
 refine tw (fun h=>YM h (m:=0) (s:=2) rfl) ?_
 refine tw (fun h=>YM h (m:=1) (s:=3) rfl) ?_
 exact Zg (fun a w h=>Zdo (m:=1) (k:=0) (l:=2) rfl (Xs h) rfl rfl rfl (congrArg (fun z=>AV.rd (Zb z)) (show([]:List ByteArray)=((Xp t).1)from by first | (rw[e7];done) | (rw[e7];rfl) | (rw[e7];exact e6))) (congrArg (fun z=>AV.rd (Ql z)) (show([]:List Lt)=((Xp t).2.1)from by first | (rw[e7];done) | (rw[e7];rfl) | (rw[e7];exact e6))) (eI (by first | (rw[e7];done) | (rw[e7];rfl) | (rw[e7];exact e6))))
 obtain⟨e1,e3,e8⟩:=Zoa hb2
 have e2:=Zel h0 e1
 refine Zc (nx (tw (sa 1 rfl (congrArg AV.int (show Z9 (isV (⟨#[41]⟩:ByteArray)) t=(((Z9 (isV ⟨#[41]⟩) t).toNat:Nat):Int)from by omega))) ?_))
 refine tsq ?_
 refine snK 2 tb rfl ?_
 refine sq (.int ((Z9 (isV ⟨#[41]⟩) t).toNat+1:Nat)) rfl rfl (lb rfl) (fun _ _ h=>ZeO (i:=(((Z9 (isV ⟨#[41]⟩) t).toNat:Nat):Int)) (j:=(1:Int)) rfl (h.get 0 rfl) (Rel.of_lit (Go.Value.int Go.IntKind.i64 1)) sfz sfz h.x) ?_
 refine sq (.rd (Zb (t.drop ((Z9 (isV ⟨#[41]⟩) t).toNat+1)))) rfl rfl (lb rfl) (fun _ _ h=>Qj (ys:=t.drop ((Z9 (isV ⟨#[41]⟩) t).toNat+1)) (lo:=(Z9 (isV ⟨#[41]⟩) t).toNat+1) (hi:=t.length) (by rw[List.take_length]) Zi (fun _=>rfl) rfl (h.get 2 rfl) (h.get 0 rfl) rfl sfz sfz h.x) ?_
 refine sq (.str (ZaO (t.drop ((Z9 (isV ⟨#[41]⟩) t).toNat+1)) ⟨#[]⟩)) rfl rfl (lb rfl) (fun _ _ h=>ZeN (Zsm hJ (l:=(t.drop ((Z9 (isV ⟨#[41]⟩) t).toNat+1))) (by exact Nat.le_trans (Zc5 _ _) hs)) Zsa rfl (Zq hS _ h.keep h.x) (h.x.1) (Za (h.get 0 rfl) Ze) (jo hJ h.x)) ?_
 refine Xt (O:=[]) (R:=[]) (ZmI hJ (s:=(ZaO (t.drop ((Z9 (isV ⟨#[41]⟩) t).toNat+1)) ⟨#[]⟩)) (by exact Nat.le_trans (ZmO _ _) hs)) Zsb rfl rfl rfl (lb rfl) hS hJ0 Zs (fun a w h=>(Za (h.get 0 rfl) Ze)) fun z1=>?_
 refine snK 5 tb rfl ?_
 refine seK [0,1,3,7,11,12] [_,_,_,_,_,_] rfl ?_
 refine nx (ln 1 fun hl2=>?_)
 refine ln 3 fun hl3=>?_
 refine Zk (qso tb hJ [1,4,5,1001] [_,_] [_,_,_,_] ?_)
 refine cj 3 (fun hb3=>?_) fun hb3=>?_
 try simp at hb3
 have e4:(Zv (Zff t)).2=true:=by have h9:z1.1.2= !(Zv (Zff t)).2:=z1.2.1;rw[show z1.1.2=false from by simpa using hb3]at h9;simpa using h9.symm
 have e7:=le_21 h0 e3 e8 e4
 refine qso tb hJ [1000,1001,1002] [_,_,_] [_,_,_] ?_
 refine tw (fun h=>YM h (m:=0) (s:=2) rfl) ?_
 refine tw (fun h=>YM h (m:=1) (s:=3) rfl) ?_
 exact Zg (fun a w h=>Zdo (m:=1) (k:=0) (l:=2) rfl (Xs h) rfl rfl rfl (congrArg (fun z=>AV.rd (Zb z)) (show([]:List ByteArray)=((Xp t).1)from by first | (rw[e7];done) | (rw[e7];rfl) | (rw[e7];exact e6))) (congrArg (fun z=>AV.rd (Ql z)) (show([]:List Lt)=((Xp t).2.1)from by first | (rw[e7];done) | (rw[e7];rfl) | (rw[e7];exact e6))) (eI (by first | (rw[e7];done) | (rw[e7];rfl) | (rw[e7];exact e6))))
 try simp at hb3
 have e5:(Zv (Zff t)).2=false:=by have h9:z1.1.2= !(Zv (Zff t)).2:=z1.2.1;rw[show z1.1.2=true from by simpa using hb3]at h9;simpa using h9.symm
 have e6:z1.1.1=(Zv (Zff t)).1:=z1.2.2 e5
 refine Zc (nx (Zk (ZN tb hJ [0,1,2,1002] [_,.int (z1.1.1.length:Nat),_] [1] [_,_,_,_] rfl ⟨YK Zb2,trivial⟩ ?_)))
 refine cj 3 (fun hb4=>?_) fun hb4=>?_
 try simp at hb4
 have e7:=le_10 h0 e3 e8 e5 (show 2000< (Zv (Zff t)).1.length from by rw[←e6];omega)
 refine qso tb hJ [1000,1001,1002] [_,_,_] [_,_,_] ?_
 refine tw (fun h=>YM h (m:=0) (s:=2) rfl) ?_
 refine tw (fun h=>YM h (m:=1) (s:=3) rfl) ?_
 exact Zg (fun a w h=>Zdo (m:=1) (k:=0) (l:=2) rfl (Xs h) rfl rfl rfl (congrArg (fun z=>AV.rd (Zb z)) (show([]:List ByteArray)=((Xp t).1)from by first | (rw[e7];done) | (rw[e7];rfl) | (rw[e7];exact e6))) (congrArg (fun z=>AV.rd (Ql z)) (show([]:List Lt)=((Xp t).2.1)from by first | (rw[e7];done) | (rw[e7];rfl) | (rw[e7];exact e6))) (eI (by first | (rw[e7];done) | (rw[e7];rfl) | (rw[e7];exact e6))))
 try simp at hb4
 have e7:=le_ok h0 e3 e8 e5 (show ¬ 2000< (Zv (Zff t)).1.length from by rw[←e6];omega)
 refine Zc (nx (Zk (Zz (ZkB Zi hJ rfl rfl rfl (lb rfl) fun v2=>?_))))
 refine snK 2 tb rfl ?_
 refine sq (.rd (Zb ((t.take ((Z9 (isV ⟨#[41]⟩) t).toNat)).drop 1))) rfl rfl (lb rfl) (fun _ _ h=>Qj (ys:=(t.take ((Z9 (isV ⟨#[41]⟩) t).toNat)).drop 1) (lo:=1) (hi:=(Z9 (isV ⟨#[41]⟩) t).toNat) rfl Zi (fun _=>rfl) rfl (h.get 1 rfl) (Rel.of_lit (Go.Value.int Go.IntKind.i64 1)) (h.get 0 rfl) sfz sfz h.x) ?_
 refine YE (f:=Zav) (m:=3) (s:=42) ([]:List ByteArray) ((t.take ((Z9 (isV ⟨#[41]⟩) t).toNat)).drop 1) (fun _=>rfl) XV hJ hJ0 rfl rfl rfl (lb rfl) rfl rfl (fun a w h=>(h.get 0 rfl)) sfz sfz fun v3=>?_
 refine snK 4 tb rfl ?_
 refine seK [0,1,2,5] [_,_,_,_] rfl ?_
 refine nx (ln 3 fun hl4=>?_)
 refine tw (fun h=>Yr hS h (m:=2) (s:=2) rfl) ?_
 exact Zg (fun a w h=>Zdo (m:=0) (k:=2) (l:=1) rfl (Xs h) rfl rfl rfl (congrArg (fun z=>AV.rd (Zb z)) (show(([]:List ByteArray)++((t.take ((Z9 (isV ⟨#[41]⟩) t).toNat)).drop 1))=((Xp t).1)from by first | (rw[e7];done) | (rw[e7];rfl) | (rw[e7];exact e6))) (congrArg (fun z=>AV.rd (Ql z)) (show z1.1.1=((Xp t).2.1)from by first | (rw[e7];done) | (rw[e7];rfl) | (rw[e7];exact e6))) (eI (by first | (rw[e7];done) | (rw[e7];rfl) | (rw[e7];exact e6))))
theorem Zdh:XX Tryz.prog 26:=fun w=>by kernel_rfl
theorem ZcB:Yd Tryz.prog 26 36 2:=⟨by kernel_rfl,fun w=>by kernel_rfl⟩
theorem Zp2:ZcJ Tryz.prog 36:=⟨.agg #[.int .i64 0,.bool false],fun w=>by kernel_rfl⟩
theorem ZmR:Zfr Tryz.prog 26 36 2 16:=ZpY (.agg #[.int .i64 0,.bool false]) (by kernel_rfl) (by kernel_rfl) rfl (by decide) (fun w=>by kernel_rfl)
theorem ZaF:XG Tryz.prog 26 1:=fun w=>by kernel_rfl
theorem Zr4:Zp Tryz.prog 37:=Zt Tryz.func37 rfl rfl
theorem ZfX {J:World→Prop} (hJ:Stab J) (s:ByteArray) (hs:s.size≤1000000000):FnP (ι:= {q:List Lt // (Zv s).2=false∧q=(Zv s).1}) (κ:= {c:Int // (Zv s).2=true∧c=21}) Tryz.prog J 37 [] [.lit (.slice none 0 0),.fn 38 [.ptr [.lit (.string s)]]] [] (fun i'=>.rd (Ql (i'.1))) (fun _=>[]) (fun k'=>flV k'.1) (fun _=>[]):=by
 refine Zep (N:=13) Tryz.func37 rfl rfl (lb rfl) fun S w0 R hS hJ0 hH=>?_
 refine atw (B:=St All (SO S (R)) w0 13 [(0,.lit (.slice none 0 0)),(1,.fn 38 [.ptr [.lit (.string s)]])] (XO J S w0.heap.size (R))) (fun h=>h) ?_
 refine Zas (m:=5) ?_
 refine tw (Yy 36 2 hJ) ?_
 refine Zz (ZeF (c:=.lit (.slice none 0 0)) hJ rfl rfl rfl (lb rfl) (fun a w h=>(h.get 0 rfl)) fun b1=>?_)
 refine snK 1 tb rfl ?_
 refine seK [1,3] [_,_] rfl ?_
 refine nxA ?_
 refine Zsr ?_
 refine Zas (m:=5) ?_
 refine qpo tb hJ [0,1000] [_] [_,_] ?_
 refine nxA ?_
 refine ZhF ?_
 refine atw (fun h=>YN (p:=(([]:List Lt)=([]:List Lt))) (rfl) h) ?_
 refine Zg7 (m:=5) (κ:=Value×(List Lt)) (μ:=Empty) (σ:=Empty) (Zej hJ s hs) ZmB hJ hS hJ0 Zs (fun pre (wv,ys)=>[OB.fct (ys=pre),OB.var b1 [.lit wv],OB.row wv 36 2 (ys.map ltC)]) (fun q':Empty=>undef) (fun q'=>[]) (fun s'=>[]) ((.slice none 0 0),([]:List Lt)) (fun x9=>.agg (ltC x9)) (fun x9=>[(5,.ptr (ltC x9)),(2,.at b1 0)]) (lb rfl) Tryz.func37 (fun _ _ _ _=>ZkK) ?_ ?_ ?_ ?_ ?_ ?_ ?_
 · exact fun a w h=>Zg4 (h.get 1 rfl)
 rintro m9 l9 R' pre x9 ⟨wv,ys⟩ K9 hK9
 refine Zz (X8 (cs:=ltC x9) ZhM rfl rfl rfl (lb rfl) rfl rfl rfl (by decide) (m:=0) rfl rfl (fun a w h=>Zq hS _ h.keep h.x _ (Nat.le_refl _)) (fun a w h w' hk'=>Yq hJ _ _ hk' h.x) ?_)
 refine seK [0,2] [_,_] rfl ?_
 exact hK9
 rintro m9 l9 R' pre x9 ⟨wv,ys⟩ hpre
 refine Zkr fun hF=>?_
 have r1_:ys=pre:=hF
 have e2:=Zdm _ s.data.toList 0 false (Nat.le_refl _)
 have e3:pre.length<s.size:=Nat.lt_of_lt_of_le (Zg8 hpre).2 e2
 have e4:ys.length=pre.length:=by rw[r1_]
 refine Zf (Zz (sq (.lit wv) rfl rfl (lb rfl) (fun _ _ h=>Zn (cs:=[.lit wv]) Zdh rfl (Zd h.x (mo 0 rfl)) (h.get 1 rfl) rfl h.x) ?_))
 refine snK 1 tb rfl ?_
 refine sq (.rd (Ql ([x9]))) rfl rfl (lb rfl) (fun _ _ h=>ZbJ ZcB Zp2 (by decide) rfl rfl (h.get 0 rfl) (Zq hS _ h.keep h.x _ (Nat.le_refl _)) (jo hJ h.x)) ?_
 refine kw pm1 ?_
 refine YE (f:=ltC) (m:=2) (s:=8) ys ([x9]) (fun _=>rfl) ZmR hJ hJ0 rfl rfl rfl (lb rfl) rfl rfl (fun a w h=>(h.get 0 rfl)) sfz sfz fun v2=>?_
 refine kw pm1 ?_
 refine ZE (b:=b1) (off:=0) (cs:=[.lit wv]) (es:=[.lit v2]) hJ hJ0 ZaF rfl rfl rfl (lb rfl) rfl (fun a w h=>⟨(h.get 5 rfl),(h.get 0 rfl)⟩) ?_
 refine seK [1,5] [_,_] rfl ?_
 refine kw (fun h=>YN (p:=((ys++([x9]))=(pre++[x9]))) (by rw[r1_]) h) ?_
 exact fun a w h=>⟨(v2,ys++([x9])),h.keep,h.x⟩
 rintro hfl ⟨wv,ys⟩ D
 refine kw pm1 ?_
 refine Zfy fun hF=>?_
 have r1_:ys=((Zv s).1):=hF
 have h9:(Zv s).2=false:=by cases h8:(Zv s).2<;>simp_all
 refine nxAD (m:=5) ?_
 refine Zma ?_
 refine ZiA ?_
 refine sq (.lit wv) rfl rfl (lb rfl) (fun _ _ h=>Zn (cs:=[.lit wv]) Zdh rfl (Zd h.x (mo 1 rfl)) (h.get 0 rfl) rfl h.x) ?_
 refine snK 1 tb rfl ?_
 refine seK [0] [_] rfl ?_
 refine nxD ?_
 refine d_ret ?_
 refine outD hJ hJ0 ?_
 refine kw pm1 ?_
 refine kw (fun h=>Yr hS h (m:=0) (s:=4) rfl) ?_
 refine kw Zy ?_
 exact fun a w h=>lvP (ZS  (m:=0) ⟨(Zv s).1,⟨h9,rfl⟩⟩ rfl h rfl (congrArg (fun z=>AV.rd (Ql z)) (show ys=((Zv s).1)from r1_)))
 · exact fun s=>s.elim
 rintro v9 hfl ⟨wv,ys⟩ D
 refine kw pm1 ?_
 refine Zfy fun hF=>?_
 have r1_:ys=((Zv s).1):=hF
 obtain⟨h9,rfl⟩:(Zv s).2=true∧flV 21=v9:=by cases h8:(Zv s).2<;>simp_all
 refine Zn2 hJ hJ0 ?_
 refine kw Zy ?_
 refine kw Zy ?_
 exact fun a w h=>pnP (⟨21,⟨h9,rfl⟩⟩: {c:Int // (Zv s).2=true∧c=21}) rfl a w h
 · exact fun q=>q.elim
theorem Zjx {J:World→Prop} (hJ:Stab J) (s:ByteArray) (hs:s.size≤1000000000):FnP (ι:= {q:List Lt // (Zv s).2=false∧q=(Zv s).1}) (κ:= {c:Int // (Zv s).2=true∧c=21}) Tryz.prog J 21 [] [.fn 38 [.ptr [.lit (.string s)]]] [] (fun i'=>.rd (Ql (i'.1))) (fun _=>[]) (fun k'=>flV k'.1) (fun _=>[]):=by
 refine Xw (N:=5) Tryz.func21 rfl rfl (lb rfl) fun S w0 R hS hJ0 hH=>?_
 refine Z8 (B:=St All (SO S (R)) w0 5 [(0,.fn 38 [.ptr [.lit (.string s)]])] (XO J S w0.heap.size (R))) ?_ fun a w h=>h
 refine qso tb hJ [0] [_] [_] ?_
 refine tsq ?_
 refine snK 1 tb rfl ?_
 refine Y7 (O:=[]) (R:=(R)) (ZfX hJ (s:=s) sfz) Zr4 rfl rfl rfl (lb rfl) hS hJ0 Zs (fun a w h=>(Za (Rel.of_lit (Go.Value.slice none 0 0)) (Za (h.get 0 rfl) Ze))) (fun k2=>?_) fun z1=>?_
 exact fun a w h=>pnP (⟨k2.1,k2.2⟩: {c:Int // (Zv s).2=true∧c=21}) rfl a w h
 refine snK 1 tb rfl ?_
 refine seK [0,1] [_,_] rfl ?_
 refine nx (ln 0 fun hl1=>?_)
 exact Zg (fun a w h=>lvP (ZS  (m:=0) ⟨z1.1,z1.2⟩ rfl h rfl rfl))
theorem Zsf:Zp Tryz.prog 21:=Zt Tryz.func21 rfl rfl
theorem Zb3:Tryz.prog.underlying 26=some (.slice 36):=by kernel_rfl
theorem Zjv {J:World→Prop} (hJ:Stab J) (bp:Nat) (bl:Nat) (bo:Nat) (t:List ByteArray) (h0:Qn t=true) (hn:t.length≤100000) (hs:Zaf t≤1000000000):FnP (ι:= {q:List ByteArray×List Lt // Xp t=(q.1,q.2,0)}) (κ:= {q:Int×List ByteArray×List Lt // Xp t=([],[],q.1)∧q.1≠0}) Tryz.prog J 17 [] [.at bp 0,.at bl 0,.at bo 0] [OB.var bp [Zb t],OB.var bl [Zb ([]:List ByteArray)],OB.var bo [Ql ([]:List Lt)]] (fun _=>.tup []) (fun i'=>[OB.var bp [Zb t],OB.var bl [Zb (i'.1.1)],OB.var bo [Ql (i'.1.2)]]) (fun k'=>flV k'.1.1) (fun k'=>[OB.var bp [Zb t],OB.var bl [Zb (k'.1.2.1)],OB.var bo [Ql (k'.1.2.2)]]):=by
 refine Xw (N:=19) Tryz.func17 rfl rfl (lb rfl) fun S w0 R hS hJ0 hH=>?_
 refine Z8 (B:=St All (SO S (OB.var bp [Zb t]::OB.var bl [Zb ([]:List ByteArray)]::OB.var bo [Ql ([]:List Lt)]::R)) w0 19 [(0,.at bp 0),(1,.at bl 0),(2,.at bo 0)] (XO J S w0.heap.size (OB.var bp [Zb t]::OB.var bl [Zb ([]:List ByteArray)]::OB.var bo [Ql ([]:List Lt)]::R))) ?_ fun a w h=>h
 refine qso tb hJ [0,1,2] [_] [_,_,_] ?_
 refine tsq ?_
 refine sq (.rd (Zb t)) rfl rfl (lb rfl) (fun _ _ h=>Zn (cs:=[Zb t]) YX rfl (Zd h.x (mo 0 rfl)) (h.get 0 rfl) rfl h.x) ?_
 refine Y7 (O:=[]) (R:=(OB.var bp [Zb t]::OB.var bl [Zb ([]:List ByteArray)]::OB.var bo [Ql ([]:List Lt)]::R)) (Zk6 hJ (l:=t) (by exact h0) sfz sfz) ZmG rfl rfl rfl (lb rfl) hS hJ0 Zs (fun a w h=>(Za (h.get 0 rfl) Ze)) (fun k2=>?_) fun z1=>?_
 exact fun a w h=>pnP (⟨(k2.1,([]:List ByteArray),([]:List Lt)),by show Xp t=([],[],k2.1)∧k2.1≠0;rw[k2.2.2];exact⟨Zq7 h0 k2.2.1,by decide⟩⟩: {q:Int×List ByteArray×List Lt // Xp t=([],[],q.1)∧q.1≠0}) rfl a w h
 refine snK 3 tb rfl ?_
 refine kw pm1 ?_
 refine ZE (b:=bl) (off:=0) (cs:=[Zb ([]:List ByteArray)]) (es:=[Zb z1.1.1]) hJ hJ0 QV rfl rfl rfl (lb rfl) rfl (fun a w h=>⟨(h.get 6 rfl),(h.get 1 rfl)⟩) ?_
 refine snK 1 tb rfl ?_
 refine seK [0,2,5,7,8] [_,_,_,_,_] rfl ?_
 refine nx (ln 1 fun hl1=>?_)
 refine ln 2 fun hl2=>?_
 refine Zk (ZN tb hJ [0,4,1001] [.rd (Zb z1.1.1),.bool (XY z1.1.1)] [0,1] [_,_,_] rfl ⟨fun _ _ _ hx hl _=>Zn (cs:=[Zb z1.1.1]) YX rfl (Zd hx (mo 0 rfl)) (hl.env 3 1 _ rfl rfl) rfl hx,iFo hS hJ (Zk3 hJ (l:=z1.1.1) ) ZmF,trivial⟩ ?_)
 refine cj 2 (fun hb1=>?_) fun hb1=>?_
 try simp at hb1
 refine Zz (Y7 (O:=[]) (R:=(OB.var bl [Zb z1.1.1]::OB.var bp [Zb t]::OB.var bo [Ql ([]:List Lt)]::R)) (XS hJ (c:=(20:Int)) ) YT rfl rfl rfl (lb rfl) hS hJ0 Zs (fun a w h=>(Za (Rel.of_lit (Go.Value.int Go.IntKind.i64 20)) Ze)) (fun _=>?_) (fun i=>i.elim))
 refine kw pm2 ?_
 refine kw pm1 ?_
 refine kw pm2 ?_
 exact fun a w h=>pnP (⟨(20,z1.1.1,([]:List Lt)),⟨Zim h0 z1.2 hb1,by show(20:Int)≠0;decide⟩⟩: {q:Int×List ByteArray×List Lt // Xp t=([],[],q.1)∧q.1≠0}) rfl a w h
 try simp at hb1
 have e8:XY z1.1.1=false:=by simpa using hb1
 refine Zc (nx (tsq ?_))
 refine snK 1 tb rfl ?_
 refine sq (.fn 38 [.ptr [.lit (.string z1.1.2)]]) rfl rfl (lb rfl) (fun _ _ h=>ZeN (ZfO hJ (s:=z1.1.2) ) ZmE rfl (Zq hS _ h.keep h.x) (h.x.1) (Za (h.get 0 rfl) Ze) (jo hJ h.x)) ?_
 refine Y7 (O:=[]) (R:=(OB.var bl [Zb z1.1.1]::OB.var bp [Zb t]::OB.var bo [Ql ([]:List Lt)]::R)) (Zjx hJ (s:=z1.1.2) (by have h9:=(Zca z1.2).1;omega)) Zsf rfl rfl rfl (lb rfl) hS hJ0 Zs (fun a w h=>(Za (h.get 0 rfl) Ze)) (fun k6=>?_) fun z5=>?_
 refine kw pm2 ?_
 refine kw pm1 ?_
 refine kw pm2 ?_
 exact fun a w h=>pnP (⟨(k6.1,z1.1.1,([]:List Lt)),by show Xp t=([],[],k6.1)∧k6.1≠0;rw[k6.2.2];exact⟨le_21 h0 z1.2 e8 k6.2.1,by decide⟩⟩: {q:Int×List ByteArray×List Lt // Xp t=([],[],q.1)∧q.1≠0}) rfl a w h
 refine kw pm2 ?_
 refine ZE (b:=bo) (off:=0) (cs:=[Ql ([]:List Lt)]) (es:=[Ql z5.1]) hJ hJ0 ZaF rfl rfl rfl (lb rfl) rfl (fun a w h=>⟨(h.get 4 rfl),(h.get 0 rfl)⟩) ?_
 refine seK [0,4] [_,_] rfl ?_
 refine nx (ln 0 fun hl3=>?_)
 refine ZN tb hJ [1002] [.rd (Ql z5.1),.int (z5.1.length:Nat),_] [0,1] [_] rfl ⟨fun _ _ _ hx hl _=>Zn (cs:=[Ql z5.1]) Zdh rfl (Zd hx (mo 0 rfl)) (hl.env 1 2 _ rfl rfl) rfl hx,YK Zb3,trivial⟩ ?_
 refine cj 0 (fun hb2=>?_) fun hb2=>?_
 try simp at hb2
 have e9:2000< (Zv z1.1.2).1.length:=by rw[←z5.2.2];omega
 refine Zz (Y7 (O:=[]) (R:=(OB.var bo [Ql z5.1]::OB.var bl [Zb z1.1.1]::OB.var bp [Zb t]::R)) (XS hJ (c:=(10:Int)) ) YT rfl rfl rfl (lb rfl) hS hJ0 Zs (fun a w h=>(Za (Rel.of_lit (Go.Value.int Go.IntKind.i64 10)) Ze)) (fun _=>?_) (fun i=>i.elim))
 refine kw pm1 ?_
 refine kw pm2 ?_
 exact fun a w h=>pnP (⟨(10,z1.1.1,z5.1),⟨le_10 h0 z1.2 e8 z5.2.1 e9,by show(10:Int)≠0;decide⟩⟩: {q:Int×List ByteArray×List Lt // Xp t=([],[],q.1)∧q.1≠0}) rfl a w h
 try simp at hb2
 have e7:Xp t=(z1.1.1,z5.1,0):=by rw[le_ok h0 z1.2 e8 z5.2.1 (show ¬ 2000< (Zv z1.1.2).1.length from by rw[←z5.2.2];omega),z5.2.2]
 refine Zc (kw pm1 ?_)
 refine kw pm2 ?_
 exact fun a w h=>lvP (XC  ⟨(z1.1.1,z5.1),e7⟩ rfl h rfl)
theorem Zkm:Zfq Tryz.prog 26 [.sl []]:=⟨(.slice none 0 0),fun w=>by kernel_rfl,fun S w=>(show RdL S w [.sl []] [.slice none 0 0]from⟨.nil _ _ (Nat.zero_le _),trivial⟩)⟩
abbrev GLt (t:List ByteArray):Type:= {q:Int×List ByteArray×List Lt // (q.1=0∧Xp t=(q.2.1,q.2.2,0))∨(q.1≠0∧Xp t=([],[],q.1))}
theorem Zjt {J:World→Prop} (hJ:Stab J) (bp:Nat) (bl:Nat) (bo:Nat) (t:List ByteArray) (h0:Qn t=true) (hn:t.length≤100000) (hs:Zaf t≤1000000000):
 FnM (ι:=GLt t) Tryz.prog J 16 [] [.lit (.func (.func 17) #[] #[.pointer (some ⟨bp,0,none⟩),.pointer (some ⟨bl,0,none⟩),.pointer (some ⟨bo,0,none⟩)])] [OB.var bp [Zb t],OB.var bl [Zb ([]:List ByteArray)],OB.var bo [Ql ([]:List Lt)]] (fun i'=>.int i'.1.1) (fun i'=>[OB.var bp [Zb t],OB.var bl [Zb (i'.1.2.1)],OB.var bo [Ql (i'.1.2.2)]]):=by
 have h4:=Zdf (F:=17) (caps:=[.pointer (some ⟨bp,0,none⟩),.pointer (some ⟨bl,0,none⟩),.pointer (some ⟨bo,0,none⟩)]) (pc:=fun k: {q:Int×List ByteArray×List Lt // Xp t=([],[],q.1)∧q.1≠0}=>k.1.1) hJ (Zjv hJ bp bl bo t h0 hn hs) (Zt Tryz.func17 rfl rfl) (by intro v hv;simp at hv;rcases hv with rfl | rfl | rfl<;>exact True.intro)
 refine(h4.map (ι':=GLt t) (fun r=>match r with | .inl i=>⟨(0,i.1),.inl ⟨rfl,i.2⟩⟩ | .inr k=>⟨k.1,.inr ⟨k.2.2,k.2.1⟩⟩) ?_ ?_)
 · rintro(i | k)<;>rfl
 · rintro(i | k)<;>rfl
theorem Zlh {J:World→Prop} (hJ:Stab J) (t:List ByteArray) (hn:t.length≤100000) (hs:Zaf t≤1000000000):Fn Tryz.prog J 7 [.rd (Zb t)] (.tup [.rd (Zb ((Xp t).1)),.rd (Ql ((Xp t).2.1)),.int ((Xp t).2.2)]):=by
 refine Zw (N:=15) Tryz.func7 rfl rfl (lb rfl) fun S w0 hS hJ0=>?_
 refine tw Yn ?_
 refine ln 0 fun hl1=>?_
 refine tsq ?_
 refine ZeF (c:=Zb t) hJ rfl rfl rfl (lb rfl) (fun a w h=>(h.get 0 rfl)) fun b1=>?_
 refine ZV Zft hJ rfl rfl rfl (lb rfl) fun b2=>?_
 refine ZV Zkm hJ rfl rfl rfl (lb rfl) fun b3=>?_
 refine snK 1 tb rfl ?_
 refine seK [1,2,3] [_,_,_] rfl ?_
 refine nx (Zk (ZN tb hJ [0,1,2,1002] [.rd (Zb t),.bool (Qn t),_] [0,1] [_,_,_,_] rfl ⟨fun _ _ _ hx hl _=>Zn (cs:=[Zb t]) YX rfl (Zd hx (mo 2 rfl)) (hl.env 2 1 _ rfl rfl) rfl hx,iFo hS hJ (Zcq hJ (l:=t) ) ZmH,trivial⟩ ?_))
 refine cj 3 (fun hb1=>?_) fun hb1=>?_
 ·
  try simp at hb1
  have e7:=le_2 (t:=t) (by simpa using hb1)
  refine tsq ?_
  refine kw pm1 ?_
  refine ZE (b:=b2) (off:=0) (cs:=[Zb ([]:List ByteArray)]) (es:=[Zb ([]:List ByteArray)]) hJ hJ0 QV rfl rfl rfl (lb rfl) rfl (fun a w h=>⟨(h.get 1 rfl),(Za5 (Rel.of_lit (Go.Value.slice none 0 0)))⟩) ?_
  refine kw pm1 ?_
  refine ZE (b:=b3) (off:=0) (cs:=[Ql ([]:List Lt)]) (es:=[Ql ([]:List Lt)]) hJ hJ0 ZaF rfl rfl rfl (lb rfl) rfl (fun a w h=>⟨(h.get 0 rfl),(Za5 (Rel.of_lit (Go.Value.slice none 0 0)))⟩) ?_
  refine snK 1 tb rfl ?_
  refine seK [0,1,2] [_,_,_] rfl ?_
  refine nx (tw pm1 ?_)
  exact Zg (fun a w h=>ZeV (m:=2) (q:=1) (z:=0) rfl YX Zdh h rfl rfl rfl (congrArg (fun z=>AV.rd (Zb z)) (show([]:List ByteArray)=((Xp t).1)from by first | exact(congrArg (fun q=>q.1) e7).symm | exact(congrArg (fun q=>q.2.1) e7).symm | exact(congrArg (fun q=>q.2.2) e7).symm)) (congrArg (fun z=>AV.rd (Ql z)) (show([]:List Lt)=((Xp t).2.1)from by first | exact(congrArg (fun q=>q.1) e7).symm | exact(congrArg (fun q=>q.2.1) e7).symm | exact(congrArg (fun q=>q.2.2) e7).symm)) (congrArg AV.int (show(2:Int)=(Xp t).2.2 from by first | exact(congrArg (fun q=>q.1) e7).symm | exact(congrArg (fun q=>q.2.1) e7).symm | exact(congrArg (fun q=>q.2.2) e7).symm)))
 ·
  try simp at hb1
  have h0:Qn t=true:=by simpa using hb1
  refine Zc (nx (tsq ?_))
  refine sq (.lit (.func (.func 17) #[] #[.pointer (some ⟨b1,0,none⟩),.pointer (some ⟨b2,0,none⟩),.pointer (some ⟨b3,0,none⟩)])) rfl rfl (lb rfl) (fun _ _ h=>Zdd (caps:=[(Go.Operand.tmp 1),(Go.Operand.tmp 2),(Go.Operand.tmp 3)]) rfl (map_cons (h.get 2 rfl).lit (map_cons (h.get 1 rfl).lit (map_cons (h.get 0 rfl).lit map_nil))) h.x) ?_
  refine kw pm1 ?_
  refine kw pm2 ?_
  refine Xt (O:=[OB.var b1 [Zb t],OB.var b2 [Zb ([]:List ByteArray)],OB.var b3 [Ql ([]:List Lt)]]) (R:=[]) (Zjt hJ (bp:=b1) (bl:=b2) (bo:=b3) (t:=t) (by exact h0) sfz sfz) Zhw rfl rfl rfl (lb rfl) hS hJ0 Zs (fun a w h=>(Za (h.get 0 rfl) Ze)) fun z4=>?_
  refine snK 1 tb rfl ?_
  refine seK [0,3,4] [_,_,_] rfl ?_
  refine nx (Zk (qso tb hJ [0,1,2,1001] [_,_] [_,_,_,_] ?_))
  refine cj 3 (fun hb2=>?_) fun hb2=>?_
  ·
   try simp at hb2
   have e7:Xp t=([],[],z4.1.1):=by rcases z4.2 with h | h;exact absurd h.1 hb2;exact h.2
   refine tsq ?_
   refine snK 1 tb rfl ?_
   refine kw pm1 ?_
   refine ZE (b:=b2) (off:=0) (cs:=[Zb z4.1.2.1]) (es:=[Zb ([]:List ByteArray)]) hJ hJ0 QV rfl rfl rfl (lb rfl) rfl (fun a w h=>⟨(h.get 3 rfl),(Za5 (Rel.of_lit (Go.Value.slice none 0 0)))⟩) ?_
   refine kw pm2 ?_
   refine ZE (b:=b3) (off:=0) (cs:=[Ql z4.1.2.2]) (es:=[Ql ([]:List Lt)]) hJ hJ0 ZaF rfl rfl rfl (lb rfl) rfl (fun a w h=>⟨(h.get 2 rfl),(Za5 (Rel.of_lit (Go.Value.slice none 0 0)))⟩) ?_
   refine snK 1 tb rfl ?_
   refine seK [0,2,3] [_,_,_] rfl ?_
   refine nx (tw pm1 ?_)
   exact Zg (fun a w h=>ZeV (m:=2) (q:=1) (z:=0) rfl YX Zdh h rfl rfl rfl (congrArg (fun z=>AV.rd (Zb z)) (show([]:List ByteArray)=((Xp t).1)from by first | exact(congrArg (fun q=>q.1) e7).symm | exact(congrArg (fun q=>q.2.1) e7).symm | exact(congrArg (fun q=>q.2.2) e7).symm)) (congrArg (fun z=>AV.rd (Ql z)) (show([]:List Lt)=((Xp t).2.1)from by first | exact(congrArg (fun q=>q.1) e7).symm | exact(congrArg (fun q=>q.2.1) e7).symm | exact(congrArg (fun q=>q.2.2) e7).symm)) (congrArg AV.int (show z4.1.1=(Xp t).2.2 from by first | exact(congrArg (fun q=>q.1) e7).symm | exact(congrArg (fun q=>q.2.1) e7).symm | exact(congrArg (fun q=>q.2.2) e7).symm)))
  ·
   try simp at hb2
   have e7:Xp t=(z4.1.2.1,z4.1.2.2,0):=by rcases z4.2 with h | h;exact h.2;exact absurd hb2 h.1
   refine Zc (nx (Zk (tw pm1 ?_)))
   refine tw pm2 ?_
   refine fun a w h=>YG (γ:=Unit) (fun ix'=>([.rd (Zb z4.1.2.1),.rd (Ql z4.1.2.2),.any,.any,.int (0:Int)]:List AV).getD ix' .any) (fun _=>true) [(3,fun(g:Unit)=>.at b3 0),(2,fun(g:Unit)=>.at b2 0),(4,fun(g:Unit)=>.int (0:Int))] (fun(j':Nat) (g:Unit)=>match j' with | 0=>[OB.var b3 [Ql z4.1.2.2],OB.var b2 [Zb z4.1.2.1],OB.var b1 [Zb t]] | 1=>[OB.var b3 [Ql z4.1.2.2],OB.var b2 [Zb z4.1.2.1],OB.var b1 [Zb t]] | _=>[OB.var b3 [Ql z4.1.2.2],OB.var b2 [Zb z4.1.2.1],OB.var b1 [Zb t]]) (fun(k':Nat) (g:Unit)=>match k' with | 0=>undef | 1=>undef | _=>undef) [2,3] 2 () (fun _=>rfl) h hJ Yl rfl rfl rfl rfl rfl rfl (fun j' g hj p hp=>by rcases j' with _ | _ | _ | j'<;>first | exact hp | exact List.mem_cons_of_mem _ hp | exact List.mem_cons_of_mem _ (List.mem_cons_of_mem _ hp) | (exfalso;omega)) ⟨?_,⟨?_,⟨?_,⟨?_,⟨?_,trivial⟩⟩⟩⟩⟩ ⟨?e6_1_0,⟨?e6_1_1,trivial⟩⟩ ⟨.old 1 3 _ rfl rfl,⟨.old 2 2 _ rfl rfl,⟨.new 4 4 _ rfl rfl rfl,trivial⟩⟩⟩ ?n6_1
   exact fun _ O' hO'=>⟨rfl,fun _ _ _ hx hl _=>Zn (cs:=[Zb z4.1.2.1]) YX rfl (Zd hx (hO' _ (mo 1 rfl))) (hl.env 2 2 _ rfl rfl) rfl hx⟩
   exact fun _ O' hO'=>⟨rfl,fun _ _ _ hx hl _=>Zn (cs:=[Ql z4.1.2.2]) Zdh rfl (Zd hx (hO' _ (mo 0 rfl))) (hl.env 1 3 _ rfl rfl) rfl hx⟩
   exact Zm rfl
   exact Zm rfl
   exact fun _ O' _=>⟨rfl,fun _ _ _ hx _ _=>Xy rfl (Rel.of_lit (Go.Value.int Go.IntKind.i64 0)) hx⟩
   case e6_1_0=>exact⟨_,rfl,rfl,rfl,rfl,fun g _ w hk hx hl _=>Zr (XU (off:=0) (cs:=[Zb z4.1.2.1]) (es:=[Zb z4.1.2.1]) (c:=Zb z4.1.2.1) hJ hJ0 QV rfl hk hx (hl.env 2 2 _ rfl rfl) (hl.D 0 13 rfl rfl) (lb rfl) rfl) fun v w' hp=>⟨g,rfl,fun _ _=>rfl,fun e=>(by cases e),hp⟩⟩
   case e6_1_1=>exact⟨_,rfl,rfl,rfl,rfl,fun g _ w hk hx hl _=>Zr (Zoy (off:=0) (cs:=[Ql z4.1.2.2]) (es:=[Ql z4.1.2.2]) (c:=Ql z4.1.2.2) hJ hJ0 ZaF rfl hk hx (hl.env 1 3 _ rfl rfl) (hl.D 1 14 rfl rfl) (lb rfl) rfl) fun v w' hp=>⟨g,rfl,fun _ _=>rfl,fun e=>(by cases e),hp⟩⟩
   clear a w h
   intro _
   dsimp only[List.map]
   refine nx (tw pm1 ?_)
   exact Zg (fun a w h=>ZeV (m:=1) (q:=0) (z:=2) rfl YX Zdh h rfl rfl rfl (congrArg (fun z=>AV.rd (Zb z)) (show z4.1.2.1=((Xp t).1)from by first | exact(congrArg (fun q=>q.1) e7).symm | exact(congrArg (fun q=>q.2.1) e7).symm | exact(congrArg (fun q=>q.2.2) e7).symm)) (congrArg (fun z=>AV.rd (Ql z)) (show z4.1.2.2=((Xp t).2.1)from by first | exact(congrArg (fun q=>q.1) e7).symm | exact(congrArg (fun q=>q.2.1) e7).symm | exact(congrArg (fun q=>q.2.2) e7).symm)) (congrArg AV.int (show(0:Int)=(Xp t).2.2 from by first | exact(congrArg (fun q=>q.1) e7).symm | exact(congrArg (fun q=>q.2.1) e7).symm | exact(congrArg (fun q=>q.2.2) e7).symm)))
theorem Zsj:Zp Tryz.prog 11:=Zt Tryz.func11 rfl rfl
theorem Znb:Zm3 Tryz.prog 37 2:=⟨(#[.int .i64 0,.bool false]),rfl,by kernel_rfl⟩
theorem call_5:Zp Tryz.prog 5:=Zt Tryz.func5 rfl rfl
theorem ZpS:Zp Tryz.prog 6:=Zt Tryz.func6 rfl rfl
theorem call_7:Zp Tryz.prog 7:=Zt Tryz.func7 rfl rfl
theorem call_8:Zp Tryz.prog 8:=Zt Tryz.func8 rfl rfl
theorem Zsk:Zp Tryz.prog 10:=Zt Tryz.func10 rfl rfl
section
variable {n:Rn} {P:Program} {X:World→Prop} {S:Nat→Prop} {o:Oper} {a:Act} {w:World} {x y:Operand} {t u:TypeId}
theorem ZpZ {l:Lt} {v:Value} (h:Rel S w (.agg (ltC l)) v):v=ZpN l:=by
 simp only[Rel]at h
 obtain⟨us,rfl,hr⟩:=h
 match us,hr with
 | [p,q],hr=>
  obtain rfl:=hr.1.of_lit
  obtain rfl:=hr.2.1.of_lit
  rfl
def EqLt (P:Program) (t:TypeId):Prop:=∀(a c:Int) (b d:Bool) (w:World) (x y:Operand),(eqGuard .eql t x y (.agg #[.int .i64 a,.bool b]) (.agg #[.int .i64 c,.bool d])).run P w= .ok () w∧
 (Op.equal t (.agg #[.int .i64 a,.bool b]) (.agg #[.int .i64 c,.bool d])).run P w= .ok (decide (a=c)&& (b==d)) w
theorem r_eqlL {l m:Lt} (ht:EqLt P t) (hop:o.op= .binOp .eql t x y u) (h1:Rel S w (.agg (ltC l)) (a.eval x)) (h2:Rel S w (.agg (ltC m)) (a.eval y)) (hx:X w):
 Z4 n P o a w (Yp S X (.bool (decide (l.number=m.number)&& (l.tagged==m.tagged))) w):=by
 obtain⟨g1,g3⟩:=ht l.number m.number l.tagged m.tagged w x y
 refine Zu (v:=.bool (decide (l.number=m.number)&& (l.tagged==m.tagged))) ?_ (Rel.of_lit _) hx
 rw[execOp,hop]
 simp only[ZpZ h1,ZpZ h2,ZpN,Sem.run_bind,g1,Result.andThen_ok,binOp,g3]
 rfl
end
theorem Znf:Tryz.prog.underlying 4=some .bool:=by kernel_rfl
theorem Zly:(Tryz.prog.fieldsOf 37).toList=[{ name:= "Number",type:=3,offset:=0,embedded:=false,tag:= "",pkgPath:= "",byteOffset:=0 }, { name:= "Tagged",type:=4,offset:=1,embedded:=false,tag:= "",pkgPath:= "",byteOffset:=8 }]:=by kernel_rfl
theorem Zlx:Tryz.prog.underlying 37=some (.struct (Tryz.prog.fieldsOf 37)):=by kernel_rfl
theorem ZeG (c:Array Value) (i:Nat) (v:Value) (h:c[i]?=some v) (w:World):(part 4 c i).run Tryz.prog w= .ok v w:=by
 simp[part,Tryz.isAgg4,h]
theorem eqLt:EqLt Tryz.prog 37:=by
 intro a c b d w x y
 refine⟨by simp[eqGuard],?_⟩
 unfold Op.equal Op.maxDepth
 rw[run_equalIn_struct w 9999 37 _ _ Zlx (by kernel_rfl),Zly]
 have e1:=fun(c:Array Value) (v:Value) (i:Nat) (h:c[i]?=some v)=>Zcn c i v h
 have e2:=fun(c:Array Value) (v:Value) (i:Nat) (h:c[i]?=some v)=>ZeG c i v h
 have q1:(Op.equalIn 9999 3 (.int .i64 a) (.int .i64 c)).run Tryz.prog w= .ok (decide (a=c)) w:=run_equalIn_int w 9998 3 .i64 .i64 a c Zkp
 have q2:(Op.equalIn 9999 4 (.bool b) (.bool d)).run Tryz.prog w= .ok (b==d) w:=run_equalIn_bool w 9998 4 b d Znf
 simp only[Op.eqFields]
 rw[if_pos (by decide),if_pos (by decide)]
 simp only[Sem.run_bind]
 rw[e1 _ (.int .i64 a) 0 rfl w,Result.andThen_ok,e1 _ (.int .i64 c) 0 rfl w,Result.andThen_ok,q1,Result.andThen_ok]
 by_cases h1:a=c
 · simp only[h1,decide_true,Bool.not_true,Bool.false_eq_true,if_false,Sem.run_bind]
   rw[e2 _ (.bool b) 1 rfl w,Result.andThen_ok,e2 _ (.bool d) 1 rfl w,Result.andThen_ok,q2,Result.andThen_ok]
   by_cases h2:b=d
   · simp[h2,Sem.run_pure]
   · simp[h2,Sem.run_pure]
 · simp[h1,Sem.run_pure]
def eqL (l m:Lt):Bool:=decide (l.number=m.number)&& (l.tagged==m.tagged)
theorem Zow (l:Lt):eqL l l=true:=by simp[eqL]
theorem ZiZ {J:World→Prop} (hJ:Stab J) (s:ByteArray)  :Fn Tryz.prog J 5 [.str s] (.bool (decide ((4000:Int)< (s.size:Int)))):=by
 refine Zw (N:=6) Tryz.func5 rfl rfl (lb rfl) fun S w0 hS hJ0=>?_
 clear hJ0
 refine qs tb hJ [0] [_] [_] ?_
 refine hqs tb hJ [1003] [_,.int (s.size:Nat),_,_] [1] [_] rfl ⟨ZpI Yb,trivial⟩ ?_
 exact Zg (rtn (m:=0) rfl rfl rfl)
theorem ZiY {J:World→Prop} (hJ:Stab J) (x:Lt) (y:Lt)  :Fn Tryz.prog J 11 [.agg (ltC x),.agg (ltC y)] (.bool (eqL x y)):=by
 refine Zw (N:=8) Tryz.func11 rfl rfl (lb rfl) fun S w0 hS hJ0=>?_
 clear hJ0
 refine hqs tb hJ [1000,1001] [.ptr (ltC x),.ptr (ltC y),_] [0,1] [_,_] rfl ⟨fun _ _ hk hx hl _=>Xb rfl (hl.env 0 0 _ rfl rfl) (hS _ hk.size) (js hJ hx),fun _ _ hk hx hl _=>Xb rfl (hl.env 1 1 _ rfl rfl) (hS _ hk.size) (js hJ hx),trivial⟩ ?_
 refine hqs tb hJ [1003] [_,_,.bool (decide (x.number=y.number)&& (x.tagged==y.tagged)),_] [2] [_] rfl ⟨fun _ _ _ hx hl _=>r_eqlL eqLt rfl (hl.D 0 5 rfl rfl) (hl.D 1 6 rfl rfl) hx,trivial⟩ ?_
 exact Zg (rtn (m:=0) rfl rfl (eB (rfl)))
theorem ZfU {J:World→Prop} (hJ:Stab J) (xs:List Lt)  :Fn Tryz.prog J 10 [.rd (Ql xs),.rd (Ql xs),.fn 11 []] (.bool true):=by
 refine Zw (N:=32) Tryz.func10 rfl rfl (lb rfl) fun S w0 hS hJ0=>?_
 refine tw Yn ?_
 refine ln 0 fun hl1=>?_
 refine qso tb hJ [0,1,2] [_] [_,_,_] ?_
 refine Zk (ZN tb hJ [0,1,2,1004] [_,.int (xs.length:Nat),_,.int (xs.length:Nat),_] [1,3] [_,_,_,_] rfl ⟨YK Zb3,YK Zb2,trivial⟩ ?_)
 refine cj 3 (fun hb1=>?_) fun hb1=>?_
 exact False.elim (by simp at hb1)
 refine Zc (nx (Zk (ZN tb hJ [1,2,1000,1001,1002] [_,.int (xs.length:Nat),_] [1] [_,_,_,_,_] rfl ⟨YK Zb3,trivial⟩ ?_)))
 refine Zf (lpo (ι:=Nat) (fun k=>(k≤xs.length)) (fun _=>[]) (fun k=>[(17,.int (k:Nat))]) (fun k=>xs.length-k) [0,1,2,3,4] [_,_,_,_] 0 (show(0≤xs.length)from Nat.zero_le _) ?_)
 rintro k hF
 have f1_1:k≤xs.length:=hF
 refine qso tb hJ [0,1,2,3,4,1000] [_] [_,_,_,_,_,_] ?_
 refine cjS 5 (fun hb2=>?_) fun hb2=>?_
 try simp at hb2
 refine Zc (nx (Zk (Zf (tsq ?_))))
 refine snK 1 tb rfl ?_
 refine sq (.ptr (ltC (ge xs k))) rfl rfl (lb rfl) (fun _ _ h=>Yg (i:=(k:Int)) ZcB rfl (h.get 3 rfl) (h.get 5 rfl) (Int.natCast_nonneg _) (Yu (xs:=xs) (k:=k) sfz) rfl h.x) ?_
 refine snK 1 tb rfl ?_
 refine ZV Zd7 hJ rfl rfl rfl (lb rfl) fun b1=>?_
 refine snK 1 tb rfl ?_
 refine ZF (b:=b1) (off:=0) (cs:=[.lit (.int .i64 0),.lit (.bool false)]) (es:=[.lit (.int .i64 ((ge xs k).number)),.lit (.bool ((ge xs k).tagged))]) (news:=[.lit (.int .i64 ((ge xs k).number)),.lit (.bool ((ge xs k).tagged))]) hJ hJ0 ZfA rfl rfl rfl (lb rfl) rfl (fun a w h=>⟨(h.get 1 rfl),(h.get 2 rfl)⟩) ?_
 refine kw (fun h=>Ys hS h (m:=1) (s:=8) rfl) ?_
 refine seK [0,1,5,6,7,8,9] [_,_,_,_,_,_,_] rfl ?_
 refine nx (tsq ?_)
 refine snK 2 tb rfl ?_
 refine sq (.ptr (ltC (ge xs k))) rfl rfl (lb rfl) (fun _ _ h=>Yg (i:=(k:Int)) Qb rfl (h.get 1 rfl) (h.get 0 rfl) (Int.natCast_nonneg _) (Yu (xs:=xs) (k:=k) sfz) rfl h.x) ?_
 refine snK 1 tb rfl ?_
 refine X8 (cs:=ltC (ge xs k)) Znb rfl rfl rfl (lb rfl) rfl rfl rfl (by decide) (m:=0) rfl rfl (fun a w h=>Zq hS _ h.keep h.x _ (Nat.le_refl _)) (fun a w h w' hk'=>Yq hJ _ _ hk' h.x) ?_
 refine seK [0,5,7,8,9,10,11] [_,_,_,_,_,_,_] rfl ?_
 refine nx (ZN tb hJ [2,3,4,5,6,1004] [_,_,_,.bool (eqL (ge xs k) (ge xs k)),_] [3] [_,_,_,_,_,_] rfl ⟨fun _ _ hk hx hl _=>ZcH ((ZiY hJ (ge xs k) (ge xs k)).r) Zsj rfl (hl.D 0 26 rfl rfl) (Zq hS _ hk hx) (hx.1) Zs (Za (hl.D 1 27 rfl rfl) (Za (hl.D 2 28 rfl rfl) Ze)) (jo hJ hx),trivial⟩ ?_)
 refine cj 5 (fun hb3=>?_) fun hb3=>?_
 try simp at hb3
 exact False.elim (by simp[Zow]at hb3)
 try simp at hb3
 refine Zc (nx (Y3 tb hJ [0,1,2,3,1001] [.int (k+1:Nat),_] [0] [_,_,_,_,_] rfl ⟨Yw,trivial⟩ ?_))
 exact XB (k+1) [0,1,2,3,4] (show((k+1)≤xs.length)from by omega)
 try simp at hb2
 refine ZB (nx (qso tb hJ [1000] [_] [_] ?_))
 exact Zg (Qt (m:=0) rfl rfl rfl)
theorem Zhi {J:World→Prop} (hJ:Stab J) (t:List ByteArray) (hG:Zab J):Fn Tryz.prog J 3 [.rd (Zb t)] (.bool true):=by
 refine Zw (N:=45) Tryz.func3 rfl rfl (lb rfl) fun S w0 hS hJ0=>?_
 refine tw Yn ?_
 refine ln 0 fun hl1=>?_
 refine qso tb hJ [0] [_] [_] ?_
 refine Zk (ZN tb hJ [0,1006] [_,.int (t.length:Nat),_,_,_,.bool (t.any (fun s'=>decide ((4000:Int)< (s'.size:Int)))),_] [1,5] [_,_] rfl ⟨YK Zx,fun _ _ hk hx hl hc=>Xj (YB hJ (xs:=t) (f:=5) (caps:=[]) (Os:=[]) (p:=(fun s'=>decide ((4000:Int)< (s'.size:Int)))) (fun q'=>(ZiZ hJ q').r) (call_5)) ZdL rfl (Zq hS _ hk hx) (hx.1) Zs (Za (hl.D 4 13 rfl hc) (Za (QH 5) Ze)) (jo hJ hx),trivial⟩ ?_)
 refine cj 1 (fun hb1=>?_) fun hb1=>?_
 refine ZN tb hJ [1001] [.bool true,_] [0] [_] rfl ⟨iFo hS hJ (Zkg hJ  (by exact hG)) ZpS,trivial⟩ ?_
 exact Zg (Qt (m:=0) rfl rfl rfl)
 have e1:t.length≤60:=by rw[Bool.or_eq_false_iff,decide_eq_false_iff_not]at hb1;omega
 have e2:Zaf t≤1000000000:=by rw[Bool.or_eq_false_iff,List.any_eq_false]at hb1;have h9:=sum_le (l:=t) (m:=4000) (fun s hs=>by have h8:=hb1.2 s hs;simp only[decide_eq_true_eq]at h8;omega);have h7:=Nat.mul_le_mul_right 4000 e1;omega
 refine Zc (nx (ZN tb hJ [0,1003,1004,1006,1007,1008] [_,.tup [.rd (Zb ((Xp t).1)),.rd (Ql ((Xp t).2.1)),.int ((Xp t).2.2)],_,_,_,_,_,_,_] [1] [_,_,_,_,_,_] rfl ⟨iFo hS hJ (Zlh hJ (t:=t) sfz sfz) call_7,trivial⟩ ?_))
 refine ln 1 fun hl2=>?_
 refine ln 2 fun hl3=>?_
 refine ZN tb hJ [3,4,5,1006,1007,1008] [_,.tup [.rd (Zb ((Xp t).1)),.rd (Ql ((Xp t).2.1)),.int ((Xp t).2.2)],_,_,_,_,_,_,_] [1] [_,_,_,_,_,_] rfl ⟨iFo hS hJ (ZmK hJ (t:=t) sfz sfz) call_8,trivial⟩ ?_
 refine ZN tb hJ [1016] [_,_,.bool (decide (((Xp t).1)=((Xp t).1))),_,_,_,.bool true,_,_,_,_,_,_,_,.bool true,_,_] [2,6,14] [_] rfl ⟨iFo hS hJ (ZeQ hJ (xs:=((Xp t).1)) (ys:=((Xp t).1)) ) Zms,iFo hS hJ (ZfU hJ (xs:=((Xp t).2.1)) ) Zsk,fun _ _ hk hx _ hc=>ZeN (Zkg hJ  (by have hc':((((decide (((Xp t).1)=((Xp t).1)))&&true)&& (decide ((Xp t).2.2=(Xp t).2.2)))==true)=true:=hc;(try simp at hc');(exact hG))) ZpS rfl (Zq hS _ hk hx) (hx.1) Ze (jo hJ hx),trivial⟩ ?_
 exact Zg (Qt (m:=0) rfl rfl (eB (by simp)))
end Go.Proofs.YtdgbcfloaenhbaaGreatDoor
