/-
  Nothing is laid here: no contract of the shelf is wanted by this seat.
-/
import Derived.Test.YtgebfcdpbeaknaaProg
namespace Go.Proofs
end Go.Proofs
