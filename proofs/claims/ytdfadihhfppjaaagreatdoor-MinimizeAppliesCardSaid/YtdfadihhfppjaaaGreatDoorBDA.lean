/-
  Part of the proof that MinimizeApplies returns true. Conditions: none.
-/

namespace Go.Proofs.YtdfadihhfppjaaaGreatDoor
structure Stp where
 ae:ByteArray
 args:List Int
def j7 (i:Int) (a:Int):Bool:=decide (a<0)||decide (i<=a)
def nC:Nat->List Stp->Int
 | _,[]=>0
 | i,s::r=>if 40<s.args.length then 4 else if s.args.any (j7 i)then 3 else nC (i+1) r
def fm (ss:List Stp):Int:=if ss.length<1∨2000<ss.length then 4 else nC 0 ss
end Go.Proofs.YtdfadihhfppjaaaGreatDoor
