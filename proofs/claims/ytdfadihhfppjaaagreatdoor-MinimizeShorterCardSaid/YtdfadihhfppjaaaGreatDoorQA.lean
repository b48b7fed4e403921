/-
  THE GRAPHS OF STEPS IN PLAIN LEAN: what each function computes, said of lists, with no program in sight.
-/

namespace Go.Proofs.YtdfadihhfppjaaaGreatDoor
structure Stp where
 label:ByteArray
 args:List Int
def ZcZ (i:Int) (a:Int):Bool:=decide (a<0)||decide (i≤a)
def ZcN:Nat→List Stp→Int
 | _,[]=>0
 | i,s::r=>if 40<s.args.length then 4 else if s.args.any (ZcZ i)then 3 else ZcN (i+1) r
def Zbl (ss:List Stp):Int:=if ss.length<1∨2000<ss.length then 4 else ZcN 0 ss
end Go.Proofs.YtdfadihhfppjaaaGreatDoor
