/-
  Two texts with a line's end between have the tokens of both, the second one's further on; where one has a wrong byte, both have, the first one's if it has one. No condition.
-/
import Derived.Test.YtogmmdnfaoaaoaaX5
import Derived.Test.YtogmmdnfaoaaoaaTokLaw
set_option linter.unusedVariables false
set_option linter.unusedSimpArgs false
namespace Go.Proofs.Ytogmmdnfaoaaoaa.Pure
open Go Go.RowKit Go.Proofs.Ytogmmdnfaoaaoaa.X Go.Proofs.YtogmmdnfaoaaoaaW.PrintWords Go.Proofs.YtogmmdnfaoaaoaaW.PrintLast Go.Proofs.Ytogmmdnfaoaaoaa.Tg Tk

def moved (d : Nat) (l : List Tok) : List Tok := l.map fun t => ⟨t.kind, t.text, d + t.pos⟩
theorem joins_l0 (s : ByteArray) (hs : s.size ≤ 20000) (m : List Tok) (hm : m.length ≤ 65536) (hp : ∀ t ∈ m, t.pos ≤ 65536) (C : List S37) (k : Nat) (hC : C.length < k) (hC2 : C.length ≤ 140737488355328) : ∀ (i : Nat) (A : List S37), i ≤ m.length → A.length ≤ 200000 + i → C = A ++ (moved (s.size + 1) (m.drop i)).map enc →
    assayerlaw06_TokensJoins.l0 (k + (m.length - i) + 1) s (m.map enc) C 0 A (i : Int) = some true := by
  intro i
  induction hn : m.length - i generalizing i with
  | zero =>
    intro A h1 h2 h3
    have hi : i = m.length := by omega
    subst hi
    simp only [Nat.add_zero, assayerlaw06_TokensJoins.l0]
    rw [if_neg (by simp), if_pos trivial]
    rw [List.drop_length] at h3
    simp only [moved, List.map_nil, List.append_nil] at h3
    obtain ⟨r, h5, h6⟩ := same_is C A hC2 k hC
    rw [h5, h6.2 h3]
    rfl
  | succ n ih =>
    intro A h1 h2 h3
    have hi : i < m.length := by omega
    rw [show k + (n + 1) + 1 = (k + n + 1) + 1 by omega]
    obtain ⟨K, hK⟩ : ∃ K, K = k + n + 1 := ⟨_, rfl⟩
    rw [← hK] at ih ⊢
    simp only [assayerlaw06_TokensJoins.l0]
    have hpi := hp m[i] (List.getElem_mem hi)
    have hrd : rd_T37 (m.map enc) (i : Int) = enc m[i] := by rw [rdT_nat _ _ (by simpa using hi)]; simp
    have hf : (enc m[i]).f2 = (m[i].pos : Int) := rfl
    rw [if_pos (by simp; omega), if_pos (by omega), if_pos (by omega), hrd, hf, w64 (x := ((s.size : Int) + 1) + _) (by omega) (by omega), w64 (x := (i : Int) + 1) (by omega) (by omega)]
    have he : (⟨(enc m[i]).f0, (enc m[i]).f1, (s.size : Int) + 1 + (m[i].pos : Int)⟩ : S37) = enc ⟨m[i].kind, m[i].text, s.size + 1 + m[i].pos⟩ := by simp [enc]
    rw [he, show ((i : Int) + 1) = ((i + 1 : Nat) : Int) by omega]
    refine ih (i + 1) (by omega) _ (by omega) (by simp; omega) ?_
    have hd : moved (s.size + 1) (m.drop i) = ⟨m[i].kind, m[i].text, s.size + 1 + m[i].pos⟩ :: moved (s.size + 1) (m.drop (i + 1)) := by rw [List.drop_eq_getElem_cons hi]; rfl
    rw [h3, hd, List.map_cons, List.append_assoc]
    rfl
theorem TokensJoins : assayerlaw06_TokensJoins.Pure := by
  intro s t hs ht
  refine ⟨300000, ?_⟩
  unfold assayerlaw06_TokensJoins.f
  rw [alive_is _ (by decide)]
  simp only [Option.bind_some, if_true]
  have hj : ∀ b, b = true → assayerlaw06_TokensJoins.j0 300000 s t b = some true := by
    rintro b rfl
    rw [show (300000 : Nat) = 299999 + 1 from rfl]
    simp only [assayerlaw06_TokensJoins.j0, if_true]
    rw [alive_is _ (by decide)]
    rfl
  by_cases h1 : (s.size : Int) > 20000
  · rw [if_pos h1, hj _ rfl]
  rw [if_neg h1]
  by_cases h2 : (t.size : Int) > 20000
  · rw [decide_eq_true h2, hj _ rfl]
  rw [decide_eq_false h2]
  rw [show (300000 : Nat) = 299999 + 1 from rfl]
  simp only [assayerlaw06_TokensJoins.j0]
  have hz : (⟨#[10]⟩ : ByteArray).size = 1 := rfl
  have h10 : (s ++ (⟨#[10]⟩ : ByteArray)).size = s.size + 1 := by rw [ByteArray.size_append, hz]
  have h11 : (s ++ (⟨#[10]⟩ : ByteArray) ++ t).size = s.size + 1 + t.size := by rw [ByteArray.size_append, h10]
  have hb : bl (s ++ (⟨#[10]⟩ : ByteArray) ++ t) = bl s ++ 10 :: bl t := by rw [bl_app, bl_app, show bl (⟨#[10]⟩ : ByteArray) = [10] from rfl, List.append_assoc]; rfl
  rw [if_neg (by decide), read_is s (by omega) 299999 (by omega), read_is t (by omega) 299999 (by omega)]
  simp only [Option.bind_some]
  rw [if_pos (by omega), if_pos (by omega), read_is _ (by omega) 299999 (by omega), hb, lex_join]
  simp only [Option.bind_some]
  have hsh := lex_shift (s.size + 1) 0 (bl t)
  rw [Nat.zero_add, show (bl s).length + 1 = s.size + 1 + 0 by rw [bl_size], hsh]
  match hx : lex 0 (bl s) with
  | .error a =>
    have ha := lex_error 0 (bl s) a hx
    rw [bl_size] at ha
    rw [show told [] (joinR (.error a) (shift (s.size + 1) (lex 0 (bl t)))) = ([], (a : Int), 4) from rfl, show told [] (Except.error a) = ([], (a : Int), 4) from rfl]
    dsimp only
    rw [if_neg (by decide), if_pos rfl, if_pos rfl]
    rfl
  | .ok l =>
    rw [show told [] (Except.ok l) = (l.map enc, 0, 0) from rfl]
    dsimp only
    rw [if_pos rfl]
    match hy : lex 0 (bl t) with
    | .error b =>
      have hb := lex_error 0 (bl t) b hy
      rw [bl_size] at hb
      rw [show told [] (joinR (.ok l) (shift (s.size + 1) (.error b))) = ([], ((s.size + 1 + b : Nat) : Int), 4) from rfl, show told [] (Except.error b) = ([], (b : Int), 4) from rfl]
      dsimp only
      rw [if_neg (by decide), if_pos rfl, if_pos (by rw [w64 (by omega) (by omega)]; omega)]
      rfl
    | .ok m =>
      have hl := good_text _ _ _ (lex_good 0 (bl s) l hx)
      have hm := good_text _ _ _ (lex_good 0 (bl t) m hy)
      rw [bl_size] at hl hm
      rw [show told [] (joinR (.ok l) (shift (s.size + 1) (.ok m))) = ((l ++ moved (s.size + 1) m).map enc, 0, 0) from rfl, show told [] (Except.ok m) = (m.map enc, 0, 0) from rfl]
      dsimp only
      rw [if_pos rfl, if_pos (by simp; omega)]
      have hpos : ∀ x ∈ m, x.pos ≤ 65536 := by
        intro x hx2
        obtain ⟨i, hi, rfl⟩ := List.getElem_of_mem hx2
        have := (lex_ahead 0 (bl t) m hy i m[i] (List.getElem?_eq_getElem hi)).2.1
        rw [bl_size] at this
        omega
      have := joins_l0 s (by omega) m (by omega) hpos ((l ++ moved (s.size + 1) m).map enc) (299998 - m.length) (by simp [moved]; omega) (by simp [moved]; omega) 0 ([] ++ l.map enc) (by omega) (by simp; omega) (by simp)
      rw [show 299998 - m.length + (m.length - 0) + 1 = 299999 by omega] at this
      exact this
end Go.Proofs.Ytogmmdnfaoaaoaa.Pure
