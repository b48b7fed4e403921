/-
  THE GRAPHS OF STEPS IN PLAIN LEAN: what each function computes, said of lists, with no program in sight.
-/

namespace Go.Proofs.YtdgbcfloaenhbaaGreatDoor
structure Stp where
 label:ByteArray
 args:List Int
end Go.Proofs.YtdgbcfloaenhbaaGreatDoor
