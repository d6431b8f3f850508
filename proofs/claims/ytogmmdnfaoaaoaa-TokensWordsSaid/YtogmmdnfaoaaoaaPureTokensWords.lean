/-
  A name is one token, a word; with a digit, a letter or an underscore more it is one still, if it is not too long, and none of the language's words; with any other byte it is no name, and its first token is the name. No condition.
-/
import Derived.Test.YtogmmdnfaoaaoaaX9
import Derived.Test.YtogmmdnfaoaaoaaTokLaw
import Derived.OpenShut
set_option linter.unusedVariables false
set_option linter.unusedSimpArgs false
namespace Go.Proofs.Ytogmmdnfaoaaoaa.Pure
open Go Go.RowKit Go.Proofs.Ytogmmdnfaoaaoaa.X Go.Proofs.YtogmmdnfaoaaoaaW.PrintWords Go.Proofs.YtogmmdnfaoaaoaaW.PrintLast Go.Proofs.Ytogmmdnfaoaaoaa.Tg Tk

theorem letter_plain (c : UInt8) (h : isLetter c = true) : isBlank c = false ∧ c ≠ 35 ∧ isWordc c = true := by
  refine ⟨?_, ?_, by simp [isWordc, h]⟩
  · have := u8_all (P := fun c => !isLetter c || !isBlank c) (by decide +kernel) c
    simpa [h] using this
  · rintro rfl; revert h; decide
theorem word_solid (r : List UInt8) (h0 : 0 < r.length) (h : wordLen r = r.length) : Solid ⟨1, r, 0⟩ := by
  match r, h0 with
  | c :: r, _ =>
    have hc : isLetter c = true := by
      simp only [wordLen] at h
      by_cases hc : isLetter c = true
      · exact hc
      · rw [if_neg hc] at h; simp at h
    have hp := letter_plain c hc
    refine ⟨c, r, rfl, hp.1, hp.2.1, ?_⟩
    unfold pick
    rw [if_pos (by rw [h]; simp), h]
theorem word_more (r : List UInt8) (c : UInt8) (h0 : 0 < r.length) (h : wordLen r = r.length) (hc : isWordc c = true) : wordLen (r ++ [c]) = (r ++ [c]).length := by
  match r, h0 with
  | a :: r, _ =>
    simp only [wordLen, List.cons_append] at h ⊢
    by_cases ha : isLetter a = true
    · rw [if_pos ha] at h ⊢
      simp only [List.length_cons, List.length_append] at h ⊢
      have hr : ∀ x ∈ r, isWordc x = true := by
        have hl : runLen isWordc r = r.length := by omega
        have := runLen_prefix isWordc r
        rw [hl, List.take_length] at this
        exact this
      rw [runLen_all (r := r ++ [c]) (by intro x hx; rcases List.mem_append.1 hx with hx | hx; exact hr x hx; simp at hx; rw [hx]; exact hc)]
      simp
    · rw [if_neg ha] at h; simp at h
theorem word_not (r : List UInt8) (c : UInt8) (h0 : 0 < r.length) (h : wordLen r = r.length) (hc : isWordc c = false) : wordLen (r ++ [c]) = r.length := by
  match r, h0 with
  | a :: r, _ =>
    rw [← h]
    simp only [wordLen, List.cons_append, runLen_app isWordc r c [] hc]
def wb (x : Int) : Bool := decide ((97 ≤ x ∧ x ≤ 122) ∨ (65 ≤ x ∧ x ≤ 90) ∨ (48 ≤ x ∧ x ≤ 57) ∨ x = 95)
theorem wb_is (c : UInt8) : wb (c.toNat : Int) = isWordc c := by
  have := u8_all (P := fun c => wb (c.toNat : Int) == isWordc c) (by decide +kernel) c
  simpa using this
theorem nameB_parts {s : ByteArray} (h : nameB s = true) : 0 < (bl s).length ∧ (bl s).length ≤ 32 ∧ wordLen (bl s) = (bl s).length := by
  unfold nameB at h
  simp only [Bool.and_eq_true, decide_eq_true_iff] at h
  exact ⟨h.1.1.1, h.1.1.2, h.1.2⟩
theorem told_one (s : ByteArray) : told [] (.ok [⟨1, bl s, 0⟩]) = ([⟨1, s, 0⟩], 0, 0) := by simp [told, enc, mk_bl]
theorem told_more (s : ByteArray) (m : List Tok) : told [] (cons' ⟨1, bl s, 0⟩ (.ok m)) = ((⟨1, s, 0⟩ : S37) :: m.map enc, 0, 0) := by simp [told, cons', enc, mk_bl]
theorem TokensWords : assayerlaw06_TokensWords.Pure := by
  intro s x hs hw
  refine ⟨2003, ?_⟩
  unfold assayerlaw06_TokensWords.f
  rw [alive_is _ (by decide)]
  simp only [Option.bind_some, if_true]
  have hj : ∀ b, b = true → assayerlaw06_TokensWords.j0 2003 s x b = some true := by
    rintro b rfl
    simp only [assayerlaw06_TokensWords.j0, if_true]
    rw [alive_is _ (by decide)]
    rfl
  by_cases h : (s.size : Int) > 1000
  · rw [if_pos h, hj _ rfl]
  rw [if_neg h, name_is s _ (by decide)]
  simp only [Option.bind_some]
  by_cases hn : nameB s = true
  rotate_left
  · have : nameB s = false := by simpa using hn
    rw [this]
    exact hj _ rfl
  rw [hn]
  obtain ⟨n0, n1, n2⟩ := nameB_parts hn
  rw [bl_size] at n0 n1
  have hb := bounds_u8 hw
  obtain ⟨c, rfl⟩ : ∃ c : UInt8, x = (c.toNat : Int) := ⟨UInt8.ofNat x.toNat, by rw [UInt8.toNat_ofNat_of_lt' (by simp; omega)]; omega⟩
  have hsol := word_solid (bl s) (by rw [bl_size]; exact n0) n2
  have hread := read_is s (by omega) 2002 (by omega)
  rw [lex_solid_end hsol 0] at hread
  have hone := told_one s
  rw [hone] at hread
  have htree : assayerlaw06_TokensWords.j0 2003 s (c.toNat : Int) (!true) = assayerlaw06_TokensWords.j1 2002 s (c.toNat : Int) [⟨1, s, 0⟩] 0 (isWordc c) := by
    rw [← wb_is]
    simp only [assayerlaw06_TokensWords.j0]
    rw [if_neg (by decide), hread]
    simp only [Option.bind_some]
    repeat' split
    all_goals (congr 1; unfold wb; first | (symm; rw [decide_eq_true_iff]; omega) | (rw [Bool.eq_iff_iff, decide_eq_true_iff, beq_iff_eq]; omega))
  rw [htree]
  have hst : bl (strOfNums [(c.toNat : Int)]) = [c] := by simp [strOfNums, bl]
  have hmore : bl (s ++ strOfNums [(c.toNat : Int)]) = bl s ++ [c] := by rw [bl_app, hst]
  have hms : (s ++ strOfNums [(c.toNat : Int)]).size = s.size + 1 := by rw [← bl_size, hmore, List.length_append, bl_size]; rfl
  simp only [assayerlaw06_TokensWords.j1, Option.bind_some]
  rw [if_pos (by rw [← bl_size (strOfNums _), hst]; simp; omega), read_is _ (by omega) 2001 (by omega), hmore]
  simp only [Option.bind_some]
  rw [if_pos trivial, if_pos (by simp), if_pos (by simp)]
  have hr0 : rd_T37 [(⟨1, s, 0⟩ : S37)] 0 = ⟨1, s, 0⟩ := rfl
  rw [hr0, if_neg (by simp), decide_eq_false (by omega)]
  simp only [assayerlaw06_TokensWords.j2]
  rw [if_neg (by decide)]
  by_cases hc : isWordc c = true
  · have hsol2 := word_solid (bl s ++ [c]) (by simp) (word_more _ c (by rw [bl_size]; exact n0) n2 hc)
    rw [lex_solid_end hsol2 0, hc, if_pos rfl]
    have hone2 := told_one (s ++ strOfNums [(c.toNat : Int)])
    rw [hmore] at hone2
    rw [hone2]
    dsimp only
    have hr1 : rd_T37 [(⟨1, s ++ strOfNums [(c.toNat : Int)], 0⟩ : S37)] 0 = ⟨1, s ++ strOfNums [(c.toNat : Int)], 0⟩ := rfl
    rw [if_pos rfl, if_pos (by simp), if_pos (by simp), hr1, if_pos rfl, name_is _ _ (by decide)]
    simp only [Option.bind_some]
    by_cases hn2 : nameB (s ++ strOfNums [(c.toNat : Int)]) = true
    · have := (nameB_parts hn2).2.1
      rw [bl_size, hms] at this
      rw [if_pos hn2, decide_eq_true (by omega)]
    · rw [if_neg hn2]
  · have hc' : isWordc c = false := by simpa using hc
    have hwl := word_not (bl s) c (by rw [bl_size]; exact n0) n2 hc'
    rw [hc', if_neg (by decide), name_is _ _ (by decide)]
    simp only [Option.bind_some]
    have hn2 : ¬ nameB (s ++ strOfNums [(c.toNat : Int)]) = true := by
      intro h2
      have := (nameB_parts h2).2.2
      rw [hmore, hwl, List.length_append] at this
      simp at this
    rw [if_neg hn2]
    obtain ⟨a, r, h1, h2, h3, h4⟩ := hsol
    simp only at h1 h4
    have hp : pick (bl s ++ [c]) = (1, (bl s).length) := by
      unfold pick
      rw [hwl, if_pos (by rw [bl_size]; exact n0)]
    have hlex : lex 0 (bl s ++ [c]) = cons' ⟨1, bl s, 0⟩ (lex (bl s).length [c]) := by
      rw [h1] at hp ⊢
      rw [List.cons_append, lex_tok h2 h3 (by rw [← List.cons_append, hp]; simp), ← List.cons_append, hp]
      simp only [List.take_left, List.drop_left, Nat.zero_add]
    rw [hlex]
    match lex (bl s).length [c] with
    | .error e =>
      rw [show told [] (cons' ⟨1, bl s, 0⟩ (.error e)) = ([], (e : Int), 4) from rfl]
      dsimp only
      rw [if_neg (by decide)]
    | .ok m =>
      rw [told_more]
      dsimp only
      rw [if_pos rfl, if_pos (by simp; omega), if_pos (by simp)]
      have hr2 : rd_T37 ((⟨1, s, 0⟩ : S37) :: m.map enc) 0 = ⟨1, s, 0⟩ := rfl
      rw [hr2]
      simp
end Go.Proofs.Ytogmmdnfaoaaoaa.Pure
