/-
  The reference's words and names are those of the list of bytes.
-/
import Derived.Test.YtogmmdnfaoaaoaaX35
import Derived.Test.YtogmmdnfaoaaoaaTokLaw
set_option linter.unusedVariables false
set_option linter.unusedSimpArgs false
namespace Go.Proofs.Ytogmmdnfaoaaoaa.Tg
open Go Go.RowKit Go.Proofs.Ytogmmdnfaoaaoaa.X Go.Proofs.YtogmmdnfaoaaoaaW.PrintWords Go.Proofs.YtogmmdnfaoaaoaaW.PrintLast Tk

theorem letter_is (c : UInt8) : assayerref06_letter.f (c.toNat : Int) = some (isLetter c) := by
  have h : ∀ c : UInt8, (assayerref06_letter.f (c.toNat : Int) == some (isLetter c)) = true := u8_all (by decide +kernel)
  simpa using h c
theorem digit_is (c : UInt8) : assayerref06_digit.f (c.toNat : Int) = some (isDigit c) := by
  have h : ∀ c : UInt8, (assayerref06_digit.f (c.toNat : Int) == some (isDigit c)) = true := u8_all (by decide +kernel)
  simpa using h c
theorem ref_word_l0 (s : ByteArray) (hs : s.size ≤ 140737488355328) (a : Nat) (k : Nat) : ∀ i : Nat, a + i ≤ s.size → s.size - (a + i) < k →
    assayerref06_word.l0 k s (a : Int) ((a + i : Nat) : Int) = some ((i + (if i = 0 then wordLen ((bl s).drop a) else runLen isWordc ((bl s).drop (a + i))) : Nat) : Int) := by
  induction k with
  | zero => intro i h1 h2; omega
  | succ k ih =>
    intro i h1 h2
    simp only [assayerref06_word.l0]
    by_cases hi : a + i < s.size
    · have hl : a + i < (bl s).length := hi
      rw [if_pos (by omega), if_pos (by omega), bt_bl s (a + i) hi, letter_is, digit_is]
      have hd : (bl s).drop (a + i) = (bl s)[a + i] :: (bl s).drop (a + i + 1) := List.drop_eq_getElem_cons hl
      have hih := ih (i + 1) (by omega) (by omega)
      rw [if_neg (by omega : ¬ i + 1 = 0)] at hih
      have hn : wrap64 (((a + i : Nat) : Int) + 1) = ((a + (i + 1) : Nat) : Int) := by rw [w64 (by omega) (by omega)]; omega
      simp only [Option.bind_some]
      rw [hn]
      have hsub : wrap64 (((a + i : Nat) : Int) - (a : Int)) = (i : Int) := by rw [w64 (by omega) (by omega)]; omega
      rw [hsub, hih]
      generalize (bl s)[a + i] = c at hd ⊢
      have h95 : ((c.toNat : Int) = 95) ↔ c = 95 := by
        constructor
        · intro h; exact UInt8.toNat_inj.1 (show c.toNat = 95 by omega)
        · intro h; rw [h]; rfl
      have hR : (bl s).drop (a + (i + 1)) = (bl s).drop (a + i + 1) := rfl
      rw [hR]
      by_cases hz : i = 0
      · subst hz
        rw [if_pos rfl, show (bl s).drop a = (bl s).drop (a + 0) from rfl, hd]
        by_cases hc : isLetter c = true
        · simp only [hc, if_true, wordLen]; congr 2; omega
        · rw [if_neg hc, if_neg (by omega)]
          simp only [wordLen, if_neg hc]
      · rw [if_neg hz, hd, if_pos (show ((a + i : Nat) : Int) > (a : Int) by omega)]
        simp only [runLen]
        by_cases hw : isWordc c = true
        · rw [if_pos hw]
          have hw2 := hw
          unfold isWordc at hw2
          simp only [Bool.or_eq_true, beq_iff_eq] at hw2
          by_cases hc : isLetter c = true
          · rw [if_pos hc]; congr 2; omega
          · rw [if_neg hc]
            by_cases hg : isDigit c = true
            · rw [if_pos hg]; congr 2; omega
            · rw [if_neg hg, if_pos (h95.2 (by rcases hw2 with (h | h) | h <;> simp_all))]; congr 2; omega
        · rw [if_neg hw]
          have hw2 := hw
          unfold isWordc at hw2
          simp only [Bool.or_eq_true, beq_iff_eq, not_or] at hw2
          rw [if_neg hw2.1.1, if_neg hw2.1.2, if_neg (fun h => hw2.2 (h95.1 h))]
          simp
    · have hd : (bl s).drop (a + i) = [] := List.drop_of_length_le (by rw [bl_size]; omega)
      rw [if_neg (by omega), w64 (by omega) (by omega)]
      congr 1
      by_cases hz : i = 0
      · subst hz
        rw [if_pos rfl, show (bl s).drop a = [] from hd]
        simp only [wordLen]; omega
      · rw [if_neg hz, hd]
        simp only [runLen]; omega
theorem ref_word_is (s : ByteArray) (hs : s.size ≤ 140737488355328) (a : Nat) (ha : a ≤ s.size) (k : Nat) (hk : s.size - a < k) : assayerref06_word.f k s (a : Int) = some (wordLen ((bl s).drop a) : Int) := by
  have := ref_word_l0 s hs a k 0 (by omega) (by omega)
  simpa [assayerref06_word.f] using this
theorem ref_name_l0 (s : ByteArray) (xs : List ByteArray) (hl : xs.length ≤ 140737488355328) (k : Nat) : ∀ i : Nat, i ≤ xs.length → xs.length - i < k →
    assayerref06_Name.l0 k s xs (i : Int) = some (!(xs.drop i).any (fun x => bl s == bl x)) := by
  induction k with
  | zero => intro i h1 h2; omega
  | succ k ih =>
    intro i h1 h2
    simp only [assayerref06_Name.l0]
    by_cases hi : i < xs.length
    · rw [if_pos (by omega), if_pos (by omega), rdOf_nat _ _ _ hi, ByteArray.toList_eq, ByteArray.toList_eq, List.drop_eq_getElem_cons hi, List.any_cons]
      by_cases he : bl s = bl xs[i]
      · rw [if_pos he.symm]
        simp [he]
      · rw [if_neg (fun h => he h.symm), w64 (by omega) (by omega)]
        have hb : (bl s == bl xs[i]) = false := beq_eq_false_iff_ne.2 he
        rw [hb, Bool.false_or]
        exact ih (i + 1) (by omega) (by omega)
    · rw [if_neg (by omega), List.drop_of_length_le (by omega)]
      rfl
theorem ref_name_is (s : ByteArray) (k : Nat) (hk : 40 < k) : assayerref06_Name.f k s = some (nameB s) := by
  obtain ⟨k, rfl⟩ : ∃ m, k = m + 1 := ⟨k - 1, by omega⟩
  have hj : ∀ b, assayerref06_Name.j0 (k + 1) s b = some (if b = true then false else !wordsL.any (fun x => bl s == bl x)) := by
    intro b
    simp only [assayerref06_Name.j0]
    cases b
    · have := ref_name_l0 s wordsL (by decide) k 0 (by simp) (by simp [wordsL]; omega)
      simp only [Bool.false_eq_true, if_false]
      exact this
    · rfl
  unfold assayerref06_Name.f nameB
  simp only [hj]
  by_cases h0 : 0 < s.size
  · rw [if_neg (fun h => size_zero.1 h h0), decide_eq_true h0]
    by_cases h1 : s.size ≤ 32
    · have hw := ref_word_is s (by omega) 0 (by omega) (k + 1) (by omega)
      rw [if_neg (by omega), show (0 : Int) = ((0 : Nat) : Int) from rfl, hw, decide_eq_true h1]
      simp only [Option.bind_some, Bool.true_and, List.drop_zero]
      by_cases h2 : wordLen (bl s) = s.size
      · simp [h2]
      · have : ((wordLen (bl s) : Int) != (s.size : Int)) = true := by rw [bne_iff_ne]; omega
        simp [this, h2]
    · rw [if_pos (by omega), decide_eq_false h1]
      simp
  · rw [if_pos (size_zero.2 h0), decide_eq_false h0]
    simp
end Go.Proofs.Ytogmmdnfaoaaoaa.Tg
