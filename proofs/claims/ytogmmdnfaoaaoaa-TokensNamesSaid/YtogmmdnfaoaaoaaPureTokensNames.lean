/-
  Whether any text may be a name, the program says just as the reference does: both ask whether it is a word of at most 32 bytes that is none of the language's words. No condition.
-/
import Derived.Test.YtogmmdnfaoaaoaaX36
import Derived.Test.YtogmmdnfaoaaoaaTokRef
namespace Go.Proofs.Ytogmmdnfaoaaoaa.Pure
open Go Go.RowKit Go.Proofs.Ytogmmdnfaoaaoaa.X Go.Proofs.YtogmmdnfaoaaoaaW.PrintWords Go.Proofs.YtogmmdnfaoaaoaaW.PrintLast Go.Proofs.Ytogmmdnfaoaaoaa.Tg

theorem beyond_one (n : Nat) (h : n ≤ 140737488355328) : assayerlaw01_Beyond.f 3 [(n : Int)] = some (decide ((n : Int) > 1048576)) := by
  have hr : rd [(n : Int)] 0 = n := rfl
  simp only [assayerlaw01_Beyond.f, assayerlaw01_Beyond.l0, List.length_cons, List.length_nil]
  rw [if_pos (by decide), if_pos (by decide), hr, w64 (by omega) (by omega)]
  by_cases h2 : (n : Int) > 1048576
  · rw [if_pos (by omega), decide_eq_true h2]
  · rw [if_neg (by omega), decide_eq_false h2, w64 (by omega) (by omega), if_neg (by decide)]
theorem TokensNames : assayerlaw06_TokensNames.Pure := by
  intro s hs
  refine ⟨100, ?_⟩
  unfold assayerlaw06_TokensNames.f
  rw [at_rounds (fun k => assayerlaw01_Beyond.mono _ k) (by decide : 3 ≤ 100) (beyond_one s.size (by omega)), name_is s 100 (by decide), ref_name_is s 100 (by decide)]
  simp
end Go.Proofs.Ytogmmdnfaoaaoaa.Pure
