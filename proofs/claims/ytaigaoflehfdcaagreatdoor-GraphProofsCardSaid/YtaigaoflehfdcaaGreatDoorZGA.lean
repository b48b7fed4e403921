/-
  THE GRAPHS OF STEPS IN PLAIN LEAN: what each function computes, said of lists, with no program in sight.
-/

namespace Go.Proofs.YtaigaoflehfdcaaGreatDoor
structure Stp where
 label:ByteArray
 args:List Int
def X7 {α:Type} (p:α→Bool):List α→Nat→Int
 | [],_=> -1
 | x::r,i=>if p x then(i:Int)else X7 p r (i+1)
theorem ZeP {α:Type} (p:α→Bool):∀(xs:List α) (i:Nat),decide (0≤X7 p xs i)=xs.any p
 | [],i=>by simp[X7]
 | x::r,i=>by
  simp only[X7,List.any_cons]
  by_cases h:p x=true
  · simp[h]
  · simp only[h]
    have:=ZeP p r (i+1)
    simp[this]
theorem ZfU {α:Type} (p:α→Bool):∀(xs:List α) (i:Nat), -1≤X7 p xs i∧X7 p xs i<i+xs.length+1
 | [],i=>by simp[X7];omega
 | x::r,i=>by
  simp only[X7]
  have:=ZfU p r (i+1)
  split
  · simp;omega
  · simp only[List.length_cons];omega
def XX (i:Int) (a:Int):Bool:=decide (a<0)||decide (i≤a)
def Zaa:Nat→List Stp→Int
 | _,[]=>0
 | i,s::r=>if 40<s.args.length then 4 else if s.args.any (XX i)then 3 else Zaa (i+1) r
def X1 (ss:List Stp):Int:=if ss.length<1∨2000<ss.length then 4 else Zaa 0 ss
theorem Zqt {α:Type} (L:List α) (z:α) (k:Nat) (h:k<L.length):
 (L.take k++List.replicate (L.length-k) z).set k L[k]=L.take (k+1)++List.replicate (L.length-(k+1)) z:=by
 have hlen:(L.take k).length=k:=by rw[List.length_take];omega
 rw[List.set_append_right _ _ (by omega),hlen,Nat.sub_self,List.take_succ_eq_append_getElem h]
 obtain⟨m,hm⟩:∃ m,L.length-k=m+1:=⟨L.length-k-1,by omega⟩
 rw[hm,List.replicate_succ,List.set_cons_zero,show L.length-(k+1)=m by omega,List.append_assoc]
 rfl
theorem Zqu {α:Type} (L:List α) (z:α) (k:Nat) (h:k<L.length):(L.take k++List.replicate (L.length-k) z)[k]?=some z:=by
 have hlen:(L.take k).length=k:=by rw[List.length_take];omega
 rw[List.getElem?_append_right (by omega),hlen,Nat.sub_self,List.getElem?_replicate,if_pos (by omega)]
end Go.Proofs.YtaigaoflehfdcaaGreatDoor
