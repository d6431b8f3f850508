/-
  Small laws that the walks of this seat want.
-/
import Derived.WalkKit
namespace Go
open Go.RowKit
/-- A cell that is stored into twice holds what came last. -/
theorem World.cell_twice {W : World} {p : Addr} {u v : Value} (h : (W.cell? p).isSome = true) : ((W.setCell p u).setCell p v).cell? p = some v := by
  obtain ⟨x, hx⟩ := Option.isSome_iff_exists.1 h
  simp [go_sem, hx]
end Go
