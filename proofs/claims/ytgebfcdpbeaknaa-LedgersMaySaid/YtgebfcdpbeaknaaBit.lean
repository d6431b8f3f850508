/-
  Nothing is laid here.
-/
import Derived.Test.YtgebfcdpbeaknaaProg
namespace Go.Proofs
end Go.Proofs
