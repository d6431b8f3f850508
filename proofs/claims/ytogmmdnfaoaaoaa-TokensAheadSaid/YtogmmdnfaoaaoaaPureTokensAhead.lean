/-
  Any text that is cut where one of its tokens begins has the tokens ahead of that one, and no others. No condition.
-/
import Derived.Test.YtogmmdnfaoaaoaaX5
import Derived.Test.YtogmmdnfaoaaoaaTokLaw
import Derived.OpenShut
set_option linter.unusedVariables false
set_option linter.unusedSimpArgs false
namespace Go.Proofs.Ytogmmdnfaoaaoaa.Pure
open Go Go.RowKit Go.Proofs.Ytogmmdnfaoaaoaa.X Go.Proofs.YtogmmdnfaoaaoaaW.PrintWords Go.Proofs.YtogmmdnfaoaaoaaW.PrintLast Go.Proofs.Ytogmmdnfaoaaoaa.Tg Tk

theorem TokensAhead : assayerlaw06_TokensAhead.Pure := by
  intro s which hs hw
  refine ⟨100003, ?_⟩
  unfold assayerlaw06_TokensAhead.f
  rw [alive_is _ (by decide)]
  simp only [Option.bind_some, if_true]
  rw [show (100003 : Nat) = 100002 + 1 from rfl]
  simp only [assayerlaw06_TokensAhead.j0]
  by_cases h : (s.size : Int) > 20000
  · rw [decide_eq_true h, if_pos rfl, alive_is _ (by decide)]
    rfl
  rw [decide_eq_false h, if_neg (by decide), read_is s (by omega) 100002 (by omega)]
  simp only [Option.bind_some]
  rw [show (100002 : Nat) = 100001 + 1 from rfl]
  match hx : lex 0 (bl s) with
  | .error a =>
    rw [show told [] (Except.error a) = ([], (a : Int), 4) from rfl]
    dsimp only
    rw [if_neg (by decide)]
    simp only [assayerlaw06_TokensAhead.j1, if_true]
  | .ok l =>
    rw [show told [] (Except.ok l) = (l.map enc, 0, 0) from rfl]
    dsimp only
    rw [if_pos rfl]
    simp only [assayerlaw06_TokensAhead.j1]
    have hl := good_text _ _ _ (lex_good 0 (bl s) l hx)
    rw [bl_size] at hl
    have hlen : (l.map enc).length = l.length := by simp
    rw [hlen]
    by_cases h0 : l.length = 0
    · rw [if_pos (by rw [beq_iff_eq]; omega)]
    · rw [if_neg (by rw [beq_iff_eq]; omega), if_neg (by omega)]
      have hb : 0 ≤ which ∧ which ≤ 65535 := by simp [Lit.wf, IntKind.min, IntKind.max, IntKind.signed, IntKind.bits] at hw; omega
      obtain ⟨n, rfl⟩ := Int.eq_ofNat_of_zero_le hb.1
      have hm : Int.tmod (wrap64 (n : Int)) (l.length : Int) = ((n % l.length : Nat) : Int) := by
        rw [w64 (by omega) (by omega), Int.tmod_eq_emod_of_nonneg (by omega)]
        omega
      have hm5 : n % l.length < l.length := Nat.mod_lt _ (by omega)
      rw [hm]
      generalize n % l.length = i at hm5
      rw [if_pos (by omega), if_pos (by omega)]
      have hrd : rd_T37 (l.map enc) (i : Int) = enc l[i] := by rw [rdT_nat _ _ (by simpa using hm5)]; simp
      have hf : (enc l[i]).f2 = (l[i].pos : Int) := rfl
      obtain ⟨a1, a2, a3⟩ := lex_ahead 0 (bl s) l hx i l[i] (List.getElem?_eq_getElem hm5)
      rw [bl_size] at a2
      rw [hrd, hf, if_neg (by omega), decide_eq_false (by omega)]
      rw [show (100001 : Nat) = 100000 + 1 from rfl]
      simp only [assayerlaw06_TokensAhead.j2]
      rw [if_neg (by decide), if_pos (by omega), hlen, if_pos (by omega), hrd, hf, if_pos (by omega), if_pos (by omega), Int.toNat_natCast]
      have hcs : (s.extract 0 l[i].pos).size ≤ 65536 := by rw [← bl_size, bl_to, List.length_take, bl_size]; omega
      rw [read_is _ hcs 100000 (by omega), bl_to, show l[i].pos = l[i].pos - 0 by omega, a3]
      rw [show told [] (Except.ok (l.take i)) = ((l.take i).map enc, 0, 0) from rfl]
      simp only [Option.bind_some]
      rw [if_pos trivial, if_pos (by omega), Int.toNat_natCast]
      obtain ⟨r, h5, h6⟩ := same_is ((l.take i).map enc) ((l.map enc).take i) (by simp; omega) 100000 (by simp; omega)
      rw [h5, h6.2 (List.map_take ..)]
      rfl
end Go.Proofs.Ytogmmdnfaoaaoaa.Pure
