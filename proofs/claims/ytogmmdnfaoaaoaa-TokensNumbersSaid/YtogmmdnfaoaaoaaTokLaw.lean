/-
  Names, equal lists of tokens, and the answers that the document fixes.
-/
import Derived.Test.YtogmmdnfaoaaoaaX2
import Derived.Test.YtogmmdnfaoaaoaaX3
import Derived.Test.YtogmmdnfaoaaoaaX4
import Derived.Test.YtogmmdnfaoaaoaaTokGo
set_option linter.unusedVariables false
set_option linter.unusedSimpArgs false
namespace Go.Proofs.Ytogmmdnfaoaaoaa.Tg
open Go Go.RowKit Go.Proofs.Ytogmmdnfaoaaoaa.X Go.Proofs.YtogmmdnfaoaaoaaW.PrintWords Go.Proofs.YtogmmdnfaoaaoaaW.PrintLast Tk

/-! ### a text among texts -/
theorem rdOf_nat {α : Type} (d : α) (l : List α) (i : Nat) (h : i < l.length) : rdOf d l (i : Int) = l[i] := by simp [rdOf, h]
theorem index_is (xs : List ByteArray) (a : ByteArray) (hl : xs.length ≤ 140737488355328) (k : Nat) : ∀ i : Nat, i ≤ xs.length → xs.length - i < k →
    ∃ r, slices_Index_string_string.l0 k xs a (xs.length : Int) (i : Int) = some r ∧ (r ≥ 0 ↔ (xs.drop i).any (fun x => bl a == bl x) = true) := by
  induction k with
  | zero => intro i h1 h2; omega
  | succ k ih =>
    intro i h1 h2
    simp only [slices_Index_string_string.l0]
    by_cases hi : i < xs.length
    · rw [if_pos (by omega), if_pos (by omega), if_pos (by omega), rdOf_nat _ _ _ hi, ByteArray.toList_eq, ByteArray.toList_eq, List.drop_eq_getElem_cons hi, List.any_cons]
      by_cases he : bl a = bl xs[i]
      · rw [if_pos he]
        exact ⟨_, rfl, by simp [he]⟩
      · rw [if_neg he, w64 (by omega) (by omega)]
        have hb : (bl a == bl xs[i]) = false := beq_eq_false_iff_ne.2 he
        rw [hb, Bool.false_or]
        exact ih (i + 1) (by omega) (by omega)
    · rw [if_neg (by omega), List.drop_of_length_le (by omega)]
      exact ⟨_, rfl, by simp⟩
theorem contains_is (xs : List ByteArray) (a : ByteArray) (hl : xs.length ≤ 140737488355328) (k : Nat) (hk : xs.length < k) : slices_Contains_string_string.f k xs a = some (xs.any (fun x => bl a == bl x)) := by
  obtain ⟨r, h1, h2⟩ := index_is xs a hl k 0 (by omega) (by omega)
  unfold slices_Contains_string_string.f slices_Index_string_string.f
  rw [show (0 : Int) = ((0 : Nat) : Int) from rfl, h1]
  simp only [Option.bind_some]
  congr 1
  rw [List.drop_zero] at h2
  rw [Bool.eq_iff_iff, decide_eq_true_iff]
  exact h2

/-! ### names -/
def wordsL : List ByteArray := [⟨#[109, 111, 115, 116]⟩, ⟨#[108, 101, 97, 115, 116]⟩, ⟨#[115, 117, 109]⟩, ⟨#[114, 111, 119, 115]⟩, ⟨#[118, 97, 114, 115]⟩, ⟨#[119, 104, 111, 108, 101]⟩, ⟨#[102, 114, 101, 101]⟩, ⟨#[101, 110, 100]⟩]
def nameB (s : ByteArray) : Bool := decide (0 < s.size) && decide (s.size ≤ 32) && decide (wordLen (bl s) = s.size) && !wordsL.any (fun x => bl s == bl x)
theorem size_zero {s : ByteArray} : s.toList = [] ↔ ¬ 0 < s.size := by
  rw [ByteArray.toList_eq, ← List.length_eq_zero_iff]
  have := bl_size s
  unfold bl at this
  omega
theorem name_is (s : ByteArray) (k : Nat) (hk : 8 < k) : tokens_Name.f k s = some (nameB s) := by
  unfold tokens_Name.f nameB
  by_cases h0 : 0 < s.size
  · rw [if_neg (fun h => size_zero.1 h h0), decide_eq_true h0]
    by_cases h1 : s.size ≤ 32
    · rw [if_pos (by omega), word_is s (by omega) h0, decide_eq_true h1]
      simp only [Option.bind_some, Bool.true_and]
      by_cases h2 : wordLen (bl s) = s.size
      · rw [if_pos (by omega), decide_eq_true h2]
        simp only [tokens_words.f, Option.bind_some]
        rw [contains_is _ s (by decide) k (by simpa using hk)]
        rfl
      · rw [if_neg (by omega), decide_eq_false h2]
        rfl
    · rw [if_neg (by omega), decide_eq_false h1]
      rfl
  · rw [if_pos (size_zero.2 h0), decide_eq_false h0]
    rfl

/-! ### equal tokens -/
theorem rdT_nat (l : List S37) (i : Nat) (h : i < l.length) : rd_T37 l (i : Int) = l[i] := by simp [rd_T37, h]
theorem tok_ext {a b : S37} (h0 : a.f0 = b.f0) (h1 : a.f1.toList = b.f1.toList) (h2 : a.f2 = b.f2) : a = b := by
  rw [ByteArray.toList_eq, ByteArray.toList_eq] at h1
  have h2' : a.f1 = b.f1 := bl_inj h1
  cases a; cases b; simp_all
theorem same_l0 (l m : List S37) (hl : l.length ≤ 140737488355328) (hm : m.length = l.length) (k : Nat) : ∀ i : Nat, i ≤ l.length → l.length - i < k →
    ∃ r, assayerlaw01_SameTokens.l0 k l m (i : Int) = some r ∧ (r = true ↔ l.drop i = m.drop i) := by
  induction k with
  | zero => intro i h1 h2; omega
  | succ k ih =>
    intro i h1 h2
    simp only [assayerlaw01_SameTokens.l0]
    by_cases hi : i < l.length
    · rw [if_pos (by omega), if_pos (by omega), if_pos (by omega), rdT_nat _ _ hi, rdT_nat _ _ (by omega : i < m.length), List.drop_eq_getElem_cons hi, List.drop_eq_getElem_cons (by omega : i < m.length)]
      split
      · rename_i h
        refine ⟨_, rfl, by simp, fun he => ?_⟩
        injection he with he _
        rw [he] at h
        simp at h
      · rename_i h
        simp only [Bool.or_eq_true, Bool.not_eq_true', beq_eq_false_iff_ne, not_or, Decidable.not_not, ne_eq] at h
        rw [w64 (by omega) (by omega)]
        obtain ⟨r, h3, h4⟩ := ih (i + 1) (by omega) (by omega)
        refine ⟨r, h3, h4.trans ⟨fun he => ?_, fun he => ?_⟩⟩
        · rw [he, tok_ext h.1 h.2.1 h.2.2]
        · injection he
    · rw [if_neg (by omega), List.drop_of_length_le (by omega), List.drop_of_length_le (by omega)]
      exact ⟨_, rfl, by simp⟩
theorem same_is (l m : List S37) (hl : l.length ≤ 140737488355328) (k : Nat) (hk : l.length < k) : ∃ r, assayerlaw01_SameTokens.f k l m = some r ∧ (r = true ↔ l = m) := by
  unfold assayerlaw01_SameTokens.f
  by_cases h : m.length = l.length
  · rw [if_pos (by omega)]
    exact same_l0 l m hl h k 0 (by omega) (by omega)
  · rw [if_neg (by omega)]
    exact ⟨_, rfl, by simp; intro he; rw [he] at h; exact h rfl⟩

/-! ### alive -/
theorem alive_is (k : Nat) (hk : 20 < k) : assayerlaw06_alive.f k = some true := by
  have h1 : tokens_Read.f k ⟨#[51, 120, 60, 61, 45, 50, 46, 53, 48, 32, 35, 32, 121]⟩ = some ([(⟨2, (⟨#[51]⟩ : ByteArray), 0⟩ : S37), (⟨1, (⟨#[120]⟩ : ByteArray), 1⟩ : S37), (⟨3, (⟨#[60, 61]⟩ : ByteArray), 2⟩ : S37), (⟨3, (⟨#[45]⟩ : ByteArray), 4⟩ : S37), (⟨2, (⟨#[50, 46, 53, 48]⟩ : ByteArray), 5⟩ : S37)], 0, 0) := by
    rw [read_is _ (by decide) k (by simp [ByteArray.size]; omega)]
    rfl
  have h2 : tokens_Read.f k ⟨#[97, 32, 60, 32, 98]⟩ = some ([], 2, 4) := by
    rw [read_is _ (by decide) k (by simp [ByteArray.size]; omega)]
    rfl
  have h3 : tokens_Read.f k ⟨#[48, 49, 46, 50, 46, 51]⟩ = some ([], 4, 4) := by
    rw [read_is _ (by decide) k (by simp [ByteArray.size]; omega)]
    rfl
  unfold assayerlaw06_alive.f
  rw [h1, h2, h3]
  simp only [Option.bind_some, if_true]
  obtain ⟨r, h4, h5⟩ := same_is [(⟨2, (⟨#[51]⟩ : ByteArray), 0⟩ : S37), (⟨1, (⟨#[120]⟩ : ByteArray), 1⟩ : S37), (⟨3, (⟨#[60, 61]⟩ : ByteArray), 2⟩ : S37), (⟨3, (⟨#[45]⟩ : ByteArray), 4⟩ : S37), (⟨2, (⟨#[50, 46, 53, 48]⟩ : ByteArray), 5⟩ : S37)] [(⟨2, (⟨#[51]⟩ : ByteArray), 0⟩ : S37), (⟨1, (⟨#[120]⟩ : ByteArray), 1⟩ : S37), (⟨3, (⟨#[60, 61]⟩ : ByteArray), 2⟩ : S37), (⟨3, (⟨#[45]⟩ : ByteArray), 4⟩ : S37), (⟨2, (⟨#[50, 46, 53, 48]⟩ : ByteArray), 5⟩ : S37)] (by decide) k (by simp; omega)
  rw [h4, h5.2 rfl, name_is _ k (by omega), name_is _ k (by omega), name_is _ k (by omega)]
  rfl
end Go.Proofs.Ytogmmdnfaoaaoaa.Tg
