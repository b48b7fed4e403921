/-
  Part of the proof that MinimizeChecks returns true. Conditions: none.
-/

namespace Go.Proofs.YtdfadihhfppjaaaGreatDoor
structure Stp where
 ae:ByteArray
 args:List Int
def kf (i:Int) (a:Int):Bool:=decide (a<0)||decide (i<=a)
def nP:Nat->List Stp->Int
 | _,[]=>0
 | i,s::r=>if 40<s.args.length then 4 else if s.args.any (kf i)then 3 else nP (i+1) r
def ft (ss:List Stp):Int:=if ss.length<1∨2000<ss.length then 4 else nP 0 ss
end Go.Proofs.YtdfadihhfppjaaaGreatDoor
