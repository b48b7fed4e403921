/-
  THE GRAPHS OF STEPS IN PLAIN LEAN: what each function computes, said of lists, with no program in sight.
-/

namespace Go.Proofs.YtdfadihhfppjaaaGreatDoor
structure Stp where
 label:ByteArray
 args:List Int
def Zch (i:Int) (a:Int):Bool:=decide (a<0)||decide (i≤a)
def Zb7:Nat→List Stp→Int
 | _,[]=>0
 | i,s::r=>if 40<s.args.length then 4 else if s.args.any (Zch i)then 3 else Zb7 (i+1) r
def Za7 (ss:List Stp):Int:=if ss.length<1∨2000<ss.length then 4 else Zb7 0 ss
end Go.Proofs.YtdfadihhfppjaaaGreatDoor
