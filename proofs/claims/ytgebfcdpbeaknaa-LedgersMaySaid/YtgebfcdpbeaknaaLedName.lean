/-
  Names: what the program's two tests of them say, in plain words.
-/
import Derived.Test.YtgebfcdpbeaknaaX9
import Derived.Test.YtgebfcdpbeaknaaX12
import Derived.Test.YtgebfcdpbeaknaaTok
import Derived.Lib.IndexLaws
set_option linter.unusedVariables false
set_option linter.unusedSimpArgs false
namespace Go.Proofs.Ytgebfcdpbeaknaa.Tg
open Go Go.RowKit Go.Proofs.Ytgebfcdpbeaknaa.X Go.Proofs.YtgebfcdpbeaknaaW.PrintWords Go.Proofs.YtgebfcdpbeaknaaW.PrintLast Tk

abbrev bl (s : ByteArray) : List UInt8 := s.data.toList
theorem bl_size (s : ByteArray) : (bl s).length = s.size := rfl
theorem bl_extract (s : ByteArray) (a b : Nat) : bl (s.extract a b) = ((bl s).drop a).take (b - a) := by simp [bl]
theorem bl_from (s : ByteArray) (a : Nat) : bl (s.extract a s.size) = (bl s).drop a := by
  rw [bl_extract, List.take_of_length_le (by simp)]
theorem bl_to (s : ByteArray) (b : Nat) : bl (s.extract 0 b) = (bl s).take b := by rw [bl_extract]; simp
theorem bl_app (s t : ByteArray) : bl (s ++ t) = bl s ++ bl t := by simp [bl]
theorem bl_inj {a b : ByteArray} (h : bl a = bl b) : a = b := by
  cases a; cases b; simp [bl] at h; rw [h]
theorem bl_mk (l : List UInt8) : bl ⟨l.toArray⟩ = l := by simp [bl]
theorem mk_bl (s : ByteArray) : (⟨(bl s).toArray⟩ : ByteArray) = s := by simp [bl]
theorem size_extract_from (s : ByteArray) (a : Nat) : (s.extract a s.size).size = s.size - a := by
  rw [← bl_size, bl_from, List.length_drop, bl_size]
theorem bt_bl (s : ByteArray) (i : Nat) (h : i < s.size) : bt s (i : Int) = (((bl s)[i]'(by simpa using h)).toNat : Int) := by
  unfold bt
  rw [dif_pos (by simpa using h)]
  rfl
theorem w64 {x : Int} (h1 : -9223372036854775808 ≤ x) (h2 : x ≤ 9223372036854775807) : wrap64 x = x := by unfold wrap64; omega
theorem u8_all {P : UInt8 → Bool} (h : (List.range 256).all (fun n => P (UInt8.ofNat n)) = true) (c : UInt8) : P c = true := by
  have hc := c.toNat_lt
  have := List.all_eq_true.1 h c.toNat (by simp; omega)
  simpa using this

/-! ### runs -/
def ascii (set : ByteArray) : Prop := ∀ c ∈ bl set, c.toNat < 128
theorem drop_cons' {α : Type} (l : List α) (i : Nat) (h : i < l.length) : l.drop i = l[i] :: l.drop (i + 1) := List.drop_eq_getElem_cons h
theorem mem_any (set : ByteArray) (c : Int) (ha : ascii set) (b : Nat) : ∀ pos acc, set.size ≤ pos + b → tokens_cutLeft.mem set c b pos acc = (acc || ((bl set).drop pos).any (fun d => c == (d.toNat : Int))) := by
  induction b with
  | zero =>
    intro pos acc h
    rw [List.drop_of_length_le (by rw [bl_size]; omega)]
    simp [tokens_cutLeft.mem]
  | succ b ih =>
    intro pos acc h
    unfold tokens_cutLeft.mem
    by_cases hp : pos < set.size
    · have hl : pos < (bl set).length := hp
      have hd := decode_ascii set pos hp (ha _ (List.getElem_mem hl))
      rw [if_pos hp, hd, ih (pos + 1) _ (by omega), drop_cons' (bl set) pos hl, List.any_cons, Bool.or_assoc]
      rfl
    · rw [if_neg hp, List.drop_of_length_le (by rw [bl_size]; omega)]
      simp
def inSet (set : ByteArray) (c : UInt8) : Bool := (bl set).any (fun d => (c.toNat : Int) == (d.toNat : Int))
theorem go_run (s set : ByteArray) (ha : ascii set) (b : Nat) : ∀ pos, s.size ≤ pos + b → bl (tokens_cutLeft.go s set b pos) = ((bl s).drop pos).drop (runLen (inSet set) ((bl s).drop pos)) := by
  induction b with
  | zero =>
    intro pos h
    rw [List.drop_of_length_le (l := bl s) (by rw [bl_size]; omega)]
    rfl
  | succ b ih =>
    intro pos h
    unfold tokens_cutLeft.go
    by_cases hp : pos < s.size
    · have hl : pos < (bl s).length := hp
      rw [if_pos hp, mem_any set _ ha _ _ _ (by omega)]
      simp only [Bool.false_or, List.drop_zero]
      rw [drop_cons' (bl s) pos hl]
      by_cases hc : ((bl s)[pos]).toNat < 128
      · rw [decode_ascii s pos hp hc]
        simp only [runLen]
        change bl (if inSet set (bl s)[pos] = true then _ else _) = _
        by_cases hm : inSet set (bl s)[pos] = true
        · rw [if_pos hm, if_pos hm, ih (pos + 1) (by omega), List.drop_succ_cons]
        · rw [if_neg hm, if_neg hm, bl_from, drop_cons' (bl s) pos hl, List.drop_zero]
      · have hh := (decode_high s pos hp (by have : ((bl s)[pos]).toNat = (s[pos]'hp).toNat := rfl; omega)).1
        have h1 : ((bl set).any fun d => ((Utf8.decode s pos).1 : Int) == (d.toNat : Int)) = false := by
          rw [List.any_eq_false]
          intro d hd
          have := ha d hd
          simp only [beq_iff_eq]; omega
        have h2 : inSet set (bl s)[pos] = false := by
          unfold inSet
          rw [List.any_eq_false]
          intro d hd
          have := ha d hd
          simp only [beq_iff_eq]; omega
        rw [h1, if_neg (by decide), bl_from, drop_cons' (bl s) pos hl]
        simp only [runLen, h2, Bool.false_eq_true, if_false, List.drop_zero]
    · rw [if_neg hp, List.drop_of_length_le (l := bl s) (by rw [bl_size]; omega)]
      rfl
theorem run_is (s set : ByteArray) (ha : ascii set) (hs : s.size ≤ 140737488355328) (p : UInt8 → Bool) (hp : ∀ c, inSet set c = p c) : tokens_run.f s set = some (runLen p (bl s) : Int) := by
  have h := go_run s set ha s.size 0 (by omega)
  obtain rfl : inSet set = p := funext hp
  have hl := runLen_le (inSet set) (bl s)
  have h2 : (tokens_cutLeft.go s set s.size 0).size = s.size - runLen (inSet set) (bl s) := by
    rw [← bl_size, h]; simp
  rw [bl_size] at hl
  simp only [tokens_run.f, tokens_cutLeft.f, Option.bind_some, h2]
  congr 1
  rw [w64] <;> omega
theorem ascii_of {l : List UInt8} (h : l.all (fun c => c.toNat < 128) = true) : ascii ⟨l.toArray⟩ := by
  intro c hc
  rw [bl_mk] at hc
  simpa using List.all_eq_true.1 h c hc
theorem run_digits (s : ByteArray) (hs : s.size ≤ 140737488355328) : tokens_run.f s ⟨#[48, 49, 50, 51, 52, 53, 54, 55, 56, 57]⟩ = some (runLen isDigit (bl s) : Int) :=
  run_is s _ (ascii_of (l := [48, 49, 50, 51, 52, 53, 54, 55, 56, 57]) (by decide)) hs _ (fun c => by simpa using u8_all (P := fun c => inSet ⟨#[48, 49, 50, 51, 52, 53, 54, 55, 56, 57]⟩ c == isDigit c) (by decide +kernel) c)
theorem run_blanks (s : ByteArray) (hs : s.size ≤ 140737488355328) : tokens_run.f s ⟨#[32, 9, 10, 13]⟩ = some (runLen isBlank (bl s) : Int) :=
  run_is s _ (ascii_of (l := [32, 9, 10, 13]) (by decide)) hs _ (fun c => by simpa using u8_all (P := fun c => inSet ⟨#[32, 9, 10, 13]⟩ c == isBlank c) (by decide +kernel) c)
theorem run_letters (s : ByteArray) (hs : s.size ≤ 140737488355328) : tokens_run.f s ⟨#[97, 98, 99, 100, 101, 102, 103, 104, 105, 106, 107, 108, 109, 110, 111, 112, 113, 114, 115, 116, 117, 118, 119, 120, 121, 122, 65, 66, 67, 68, 69, 70, 71, 72, 73, 74, 75, 76, 77, 78, 79, 80, 81, 82, 83, 84, 85, 86, 87, 88, 89, 90]⟩ = some (runLen isLetter (bl s) : Int) :=
  run_is s _ (ascii_of (l := [97, 98, 99, 100, 101, 102, 103, 104, 105, 106, 107, 108, 109, 110, 111, 112, 113, 114, 115, 116, 117, 118, 119, 120, 121, 122, 65, 66, 67, 68, 69, 70, 71, 72, 73, 74, 75, 76, 77, 78, 79, 80, 81, 82, 83, 84, 85, 86, 87, 88, 89, 90]) (by decide)) hs _ (fun c => by simpa using u8_all (P := fun c => inSet ⟨#[97, 98, 99, 100, 101, 102, 103, 104, 105, 106, 107, 108, 109, 110, 111, 112, 113, 114, 115, 116, 117, 118, 119, 120, 121, 122, 65, 66, 67, 68, 69, 70, 71, 72, 73, 74, 75, 76, 77, 78, 79, 80, 81, 82, 83, 84, 85, 86, 87, 88, 89, 90]⟩ c == isLetter c) (by decide +kernel) c)
theorem run_words (s : ByteArray) (hs : s.size ≤ 140737488355328) : tokens_run.f s ⟨#[97, 98, 99, 100, 101, 102, 103, 104, 105, 106, 107, 108, 109, 110, 111, 112, 113, 114, 115, 116, 117, 118, 119, 120, 121, 122, 65, 66, 67, 68, 69, 70, 71, 72, 73, 74, 75, 76, 77, 78, 79, 80, 81, 82, 83, 84, 85, 86, 87, 88, 89, 90, 48, 49, 50, 51, 52, 53, 54, 55, 56, 57, 95]⟩ = some (runLen isWordc (bl s) : Int) :=
  run_is s _ (ascii_of (l := [97, 98, 99, 100, 101, 102, 103, 104, 105, 106, 107, 108, 109, 110, 111, 112, 113, 114, 115, 116, 117, 118, 119, 120, 121, 122, 65, 66, 67, 68, 69, 70, 71, 72, 73, 74, 75, 76, 77, 78, 79, 80, 81, 82, 83, 84, 85, 86, 87, 88, 89, 90, 48, 49, 50, 51, 52, 53, 54, 55, 56, 57, 95]) (by decide)) hs _ (fun c => by simpa using u8_all (P := fun c => inSet ⟨#[97, 98, 99, 100, 101, 102, 103, 104, 105, 106, 107, 108, 109, 110, 111, 112, 113, 114, 115, 116, 117, 118, 119, 120, 121, 122, 65, 66, 67, 68, 69, 70, 71, 72, 73, 74, 75, 76, 77, 78, 79, 80, 81, 82, 83, 84, 85, 86, 87, 88, 89, 90, 48, 49, 50, 51, 52, 53, 54, 55, 56, 57, 95]⟩ c == isWordc c) (by decide +kernel) c)

/-! ### words, numbers, signs -/
theorem word_is (s : ByteArray) (hs : s.size ≤ 140737488355328) (h0 : 0 < s.size) : tokens_word.f s = some (wordLen (bl s) : Int) := by
  have h1 : (s.extract 0 1).size ≤ 140737488355328 := by rw [← bl_size, bl_to]; simp; omega
  unfold tokens_word.f
  rw [if_pos (by omega), if_pos (by omega), run_letters _ h1, run_words _ hs]
  simp only [Option.bind_some]
  rw [bl_to]
  match hb : bl s, (show 0 < (bl s).length from h0) with
  | c :: r, _ =>
    simp only [List.take_succ_cons, List.take_zero, runLen, wordLen]
    by_cases hc : isLetter c = true
    · have : isWordc c = true := by simp [isWordc, hc]
      simp [hc, this]
    · simp [hc]
theorem rdOf_nat {α : Type} (d : α) (l : List α) (i : Nat) (h : i < l.length) : rdOf d l (i : Int) = l[i] := by simp [rdOf, h]
theorem index_is (xs : List ByteArray) (a : ByteArray) (hl : xs.length ≤ 140737488355328) (k : Nat) : ∀ i : Nat, i ≤ xs.length → xs.length - i < k →
    ∃ r, slices_Index_string_string.l0 k xs a (xs.length : Int) (i : Int) = some r ∧ (r ≥ 0 ↔ (xs.drop i).any (fun x => bl a == bl x) = true) := by
  induction k with
  | zero => intro i h1 h2; omega
  | succ k ih =>
    intro i h1 h2
    simp only [slices_Index_string_string.l0]
    by_cases hi : i < xs.length
    · rw [if_pos (by omega), if_pos (by omega), if_pos (by omega), rdOf_nat _ _ _ hi, ByteArray.toList_eq, ByteArray.toList_eq, List.drop_eq_getElem_cons hi, List.any_cons]
      by_cases he : bl a = bl xs[i]
      · rw [if_pos he]
        exact ⟨_, rfl, by simp [he]⟩
      · rw [if_neg he, w64 (by omega) (by omega)]
        have hb : (bl a == bl xs[i]) = false := beq_eq_false_iff_ne.2 he
        rw [hb, Bool.false_or]
        exact ih (i + 1) (by omega) (by omega)
    · rw [if_neg (by omega), List.drop_of_length_le (by omega)]
      exact ⟨_, rfl, by simp⟩
theorem contains_is (xs : List ByteArray) (a : ByteArray) (hl : xs.length ≤ 140737488355328) (k : Nat) (hk : xs.length < k) : slices_Contains_string_string.f k xs a = some (xs.any (fun x => bl a == bl x)) := by
  obtain ⟨r, h1, h2⟩ := index_is xs a hl k 0 (by omega) (by omega)
  unfold slices_Contains_string_string.f slices_Index_string_string.f
  rw [show (0 : Int) = ((0 : Nat) : Int) from rfl, h1]
  simp only [Option.bind_some]
  congr 1
  rw [List.drop_zero] at h2
  rw [Bool.eq_iff_iff, decide_eq_true_iff]
  exact h2

/-! ### names -/
def wordsL : List ByteArray := [⟨#[109, 111, 115, 116]⟩, ⟨#[108, 101, 97, 115, 116]⟩, ⟨#[115, 117, 109]⟩, ⟨#[114, 111, 119, 115]⟩, ⟨#[118, 97, 114, 115]⟩, ⟨#[119, 104, 111, 108, 101]⟩, ⟨#[102, 114, 101, 101]⟩, ⟨#[101, 110, 100]⟩]
def nameB (s : ByteArray) : Bool := decide (0 < s.size) && decide (s.size ≤ 32) && decide (wordLen (bl s) = s.size) && !wordsL.any (fun x => bl s == bl x)
theorem size_zero {s : ByteArray} : s.toList = [] ↔ ¬ 0 < s.size := by
  rw [ByteArray.toList_eq, ← List.length_eq_zero_iff]
  have := bl_size s
  unfold bl at this
  omega
theorem name_is (s : ByteArray) (k : Nat) (hk : 8 < k) : tokens_Name.f k s = some (nameB s) := by
  unfold tokens_Name.f nameB
  by_cases h0 : 0 < s.size
  · rw [if_neg (fun h => size_zero.1 h h0), decide_eq_true h0]
    by_cases h1 : s.size ≤ 32
    · rw [if_pos (by omega), word_is s (by omega) h0, decide_eq_true h1]
      simp only [Option.bind_some, Bool.true_and]
      by_cases h2 : wordLen (bl s) = s.size
      · rw [if_pos (by omega), decide_eq_true h2]
        simp only [tokens_words.f, Option.bind_some]
        rw [contains_is _ s (by decide) k (by simpa using hk)]
        rfl
      · rw [if_neg (by omega), decide_eq_false h2]
        rfl
    · rw [if_neg (by omega), decide_eq_false h1]
      rfl
  · rw [if_pos (size_zero.2 h0), decide_eq_false h0]
    rfl

/-! ### equal tokens -/
/-- the program's own test of names is that of the tokens -/
theorem named_l0 (s : ByteArray) (hs : s.size ≤ 140737488355328) (k : Nat) : ∀ i : Nat, i ≤ s.size → s.size - i + 10 < k →
    ledgers_named.l0 k s (i : Int) = some (if i = 0 then nameB s else (decide (runLen isWordc ((bl s).drop i) = s.size - i) && decide (s.size ≤ 32) && !wordsL.any (fun x => bl s == bl x))) := by
  induction k with
  | zero => intro i h1 h2; omega
  | succ k ih =>
    intro i h1 h2
    simp only [ledgers_named.l0]
    by_cases hi : i < s.size
    · have hl : i < (bl s).length := hi
      have hd : (bl s).drop i = (bl s)[i] :: (bl s).drop (i + 1) := List.drop_eq_getElem_cons hl
      have hih := ih (i + 1) (by omega) (by omega)
      rw [if_neg (by omega : ¬ i + 1 = 0)] at hih
      rw [if_pos (by omega), if_pos (by omega), bt_bl s i hi, w64 (by omega) (by omega), show ((i : Int) + 1) = ((i + 1 : Nat) : Int) by omega, hih]
      have hlet : ∀ c : UInt8, ledgers_letter.f (c.toNat : Int) = some (isLetter c) := by
        intro c
        have h : ∀ c : UInt8, (ledgers_letter.f (c.toNat : Int) == some (isLetter c)) = true := u8_all (by decide +kernel)
        simpa using h c
      rw [hlet]
      simp only [Option.bind_some]
      generalize (bl s)[i] = c at hd ⊢
      have hc0 : 0 < s.size := by omega
      have hcn := c.toNat_lt
      have hdig : isDigit c = decide (48 ≤ (c.toNat : Int) ∧ (c.toNat : Int) ≤ 57) := by
        have h : ∀ c : UInt8, (isDigit c == decide (48 ≤ (c.toNat : Int) ∧ (c.toNat : Int) ≤ 57)) = true := u8_all (by decide +kernel)
        simpa using h c
      have h95 : ((c.toNat : Int) = 95) ↔ c = 95 := by
        constructor
        · intro h; exact UInt8.toNat_inj.1 (show c.toNat = 95 by omega)
        · intro h; rw [h]; rfl
      by_cases hz : i = 0
      · subst hz
        rw [List.drop_zero] at hd
        have hwl : wordLen (bl s) = if isLetter c = true then runLen isWordc ((bl s).drop (0 + 1)) + 1 else 0 := (congrArg wordLen hd).trans rfl
        unfold nameB
        rw [hwl, decide_eq_true hc0, if_pos rfl]
        by_cases hc : isLetter c = true
        · have e : (runLen isWordc ((bl s).drop (0 + 1)) + 1 = s.size) ↔ (runLen isWordc ((bl s).drop (0 + 1)) = s.size - (0 + 1)) := by omega
          simp only [hc, if_true, e, Bool.true_and]
          rw [Bool.and_comm (decide (s.size ≤ 32))]
        · simp only [if_neg hc]
          rw [if_pos (by rfl), decide_eq_false (by omega : ¬ (0 = s.size))]
          simp
      · rw [if_neg hz, if_neg (by omega : ¬ ((i : Int) = 0))]
        have hr : runLen isWordc ((bl s).drop i) = if isWordc c = true then runLen isWordc ((bl s).drop (i + 1)) + 1 else 0 := (congrArg (runLen isWordc) hd).trans rfl
        rw [hr]
        by_cases hw : isWordc c = true
        · have e : (runLen isWordc ((bl s).drop (i + 1)) + 1 = s.size - i) ↔ (runLen isWordc ((bl s).drop (i + 1)) = s.size - (i + 1)) := by omega
          simp only [hw, if_true, e]
          unfold isWordc at hw
          simp only [Bool.or_eq_true, beq_iff_eq] at hw
          by_cases hc : isLetter c = true
          · rw [if_pos hc]
          · rw [if_neg hc]
            by_cases h9 : c = 95
            · rw [if_pos (h95.2 h9)]
            · rw [if_neg (fun h => h9 (h95.1 h))]
              have hg : isDigit c = true := by rcases hw with (h | h) | h <;> simp_all
              rw [hdig, decide_eq_true_iff] at hg
              rw [if_neg (by omega), if_neg (by omega)]
        · simp only [if_neg hw]
          have hw2 := hw
          unfold isWordc at hw2
          simp only [Bool.or_eq_true, beq_iff_eq, not_or] at hw2
          rw [hdig, decide_eq_true_iff] at hw2
          rw [if_neg hw2.1.1, if_neg (fun h => hw2.2 (h95.1 h))]
          have hf : decide (0 = s.size - i) = false := decide_eq_false (by omega)
          rw [hf]
          by_cases h48 : (c.toNat : Int) < 48
          · rw [if_pos h48]; rfl
          · rw [if_neg h48, if_pos (by omega)]; rfl
    · have hd : (bl s).drop i = [] := List.drop_of_length_le (by rw [bl_size]; omega)
      have hcon := contains_is wordsL s (by decide) k (by simp [wordsL]; omega)
      change slices_Contains_string_string.f k [⟨#[109, 111, 115, 116]⟩, ⟨#[108, 101, 97, 115, 116]⟩, ⟨#[115, 117, 109]⟩, ⟨#[114, 111, 119, 115]⟩, ⟨#[118, 97, 114, 115]⟩, ⟨#[119, 104, 111, 108, 101]⟩, ⟨#[102, 114, 101, 101]⟩, ⟨#[101, 110, 100]⟩] s = _ at hcon
      rw [if_neg (by omega), hd, hcon]
      by_cases h0 : 0 < s.size
      · rw [if_neg (fun h => size_zero.1 h h0), if_neg (by omega : ¬ i = 0)]
        by_cases h1 : s.size ≤ 32
        · rw [if_pos (by omega : (s.size : Int) ≤ 32), decide_eq_true h1]
          have e0 : s.size - i = 0 := by omega
          simp [runLen, e0]
        · rw [if_neg (by omega : ¬ (s.size : Int) ≤ 32), decide_eq_false h1]
          simp
      · rw [if_pos (size_zero.2 h0), if_pos (by omega : i = 0)]
        unfold nameB
        rw [decide_eq_false h0]
        rfl
theorem named_is (s : ByteArray) (hs : s.size ≤ 140737488355328) : ledgers_named.f (s.size + 11) s = some (nameB s) := by
  have := named_l0 s hs (s.size + 11) 0 (by omega) (by omega)
  simpa [ledgers_named.f] using this
end Go.Proofs.Ytgebfcdpbeaknaa.Tg
