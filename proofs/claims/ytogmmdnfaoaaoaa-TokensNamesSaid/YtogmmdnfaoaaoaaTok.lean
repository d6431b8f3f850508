/-
  Tokens of a list of bytes, in plain Lean: what a text's tokens are, and how they behave when texts are cut, joined or spread.
-/
set_option linter.unusedVariables false
set_option linter.unusedSimpArgs false
namespace Tk
abbrev L := List UInt8
def isLetter (c : UInt8) : Bool := (97 ≤ c && c ≤ 122) || (65 ≤ c && c ≤ 90)
def isDigit (c : UInt8) : Bool := 48 ≤ c && c ≤ 57
def isWordc (c : UInt8) : Bool := isLetter c || isDigit c || c == 95
def isBlank (c : UInt8) : Bool := c == 32 || c == 9 || c == 10 || c == 13
def runLen (p : UInt8 → Bool) : L → Nat
  | [] => 0
  | c :: r => if p c then runLen p r + 1 else 0
def wordLen : L → Nat
  | [] => 0
  | c :: r => if isLetter c then runLen isWordc r + 1 else 0
def tailLen : L → Nat   -- a point, and digits
  | 46 :: r => if 0 < runLen isDigit r then runLen isDigit r + 1 else 0
  | _ => 0
def numLen (r : L) : Nat := if 0 < runLen isDigit r then runLen isDigit r + tailLen (r.drop (runLen isDigit r)) else 0
def signs : L := [43, 45, 42, 47, 44, 58, 59, 61, 40, 41, 91, 93]
def two : L → Bool
  | c :: d :: _ => (c == 60 || c == 62) && d == 61
  | _ => false
def signLen (r : L) : Nat := if two r then 2 else match r with | [] => 0 | c :: _ => if signs.contains c then 1 else 0
def pick (r : L) : Nat × Nat := if 0 < wordLen r then (1, wordLen r) else if 0 < numLen r then (2, numLen r) else if 0 < signLen r then (3, signLen r) else (0, 0)
structure Tok where
  kind : Nat
  text : L
  pos : Nat
deriving DecidableEq
def cons' (t : Tok) : Except Nat (List Tok) → Except Nat (List Tok)
  | .ok l => .ok (t :: l)
  | .error a => .error a
def notNl (c : UInt8) : Bool := c != 10
def lexN : Nat → Nat → L → Except Nat (List Tok)
  | 0, _, _ => .ok []
  | _ + 1, _, [] => .ok []
  | k + 1, p, c :: r =>
    if isBlank c then lexN k (p + 1) r
    else if c = 35 then lexN k (p + (runLen notNl r + 1)) (r.drop (runLen notNl r))
    else if (pick (c :: r)).2 = 0 then .error p
    else cons' ⟨(pick (c :: r)).1, (c :: r).take (pick (c :: r)).2, p⟩ (lexN k (p + (pick (c :: r)).2) ((c :: r).drop (pick (c :: r)).2))
def lex (p : Nat) (r : L) : Except Nat (List Tok) := lexN (r.length + 1) p r

theorem runLen_le (p : UInt8 → Bool) (r : L) : runLen p r ≤ r.length := by
  induction r with
  | nil => exact Nat.le_refl _
  | cons c r ih => simp only [runLen, List.length_cons]; split <;> omega
theorem tailLen_le (r : L) : tailLen r ≤ r.length := by
  unfold tailLen
  split
  · rename_i r; have := runLen_le isDigit r; simp only [List.length_cons]; split <;> omega
  · omega
theorem numLen_le (r : L) : numLen r ≤ r.length := by
  unfold numLen
  split
  · have := runLen_le isDigit r; have h := tailLen_le (r.drop (runLen isDigit r)); simp only [List.length_drop] at h; omega
  · omega
theorem wordLen_le (r : L) : wordLen r ≤ r.length := by
  cases r with
  | nil => exact Nat.le_refl _
  | cons c r => have := runLen_le isWordc r; simp only [wordLen, List.length_cons]; split <;> omega
theorem two_len {r : L} (h : two r = true) : 2 ≤ r.length := by
  match r, h with
  | _ :: _ :: r, _ => simp
theorem signLen_le (r : L) : signLen r ≤ r.length := by
  unfold signLen
  split
  · rename_i h; exact two_len h
  · split
    · exact Nat.le_refl _
    · simp only [List.length_cons]; split <;> omega
theorem pick_le (r : L) : (pick r).2 ≤ r.length := by
  have h1 := wordLen_le r; have h2 := numLen_le r; have h3 := signLen_le r
  unfold pick
  repeat' split
  all_goals simp; try omega
theorem pick_pos {r : L} (h : (pick r).2 ≠ 0) : 0 < (pick r).1 ∧ (pick r).1 ≤ 3 := by
  unfold pick at h ⊢
  repeat' split
  all_goals simp_all

/-! ### the number of rounds doesn't matter -/
theorem lexN_more (k : Nat) : ∀ (j p : Nat) (r : L), r.length < k → r.length < j → lexN k p r = lexN j p r := by
  induction k with
  | zero => intro j p r h; omega
  | succ k ih =>
    intro j p r h hj
    cases j with
    | zero => omega
    | succ j =>
      cases r with
      | nil => rfl
      | cons c r =>
        simp only [List.length_cons] at h hj
        have hl := runLen_le notNl r
        have hp := pick_le (c :: r)
        simp only [lexN]
        split
        · exact ih j _ _ (by omega) (by omega)
        · split
          · exact ih j _ _ (by simp; omega) (by simp; omega)
          · split
            · rfl
            · rw [ih j _ _ (by simp; omega) (by simp; omega)]
theorem lex_nil (p : Nat) : lex p [] = .ok [] := rfl
theorem lex_blank {p : Nat} {c : UInt8} {r : L} (h : isBlank c = true) : lex p (c :: r) = lex (p + 1) r := by
  simp only [lex, List.length_cons, lexN, h, if_true]
theorem lex_hash {p : Nat} {r : L} : lex p (35 :: r) = lex (p + (runLen notNl r + 1)) (r.drop (runLen notNl r)) := by
  simp only [lex, List.length_cons, lexN]
  rw [if_neg (by decide), if_pos trivial]
  exact lexN_more _ _ _ _ (by simp; omega) (by simp)
theorem lex_bad {p : Nat} {c : UInt8} {r : L} (h : isBlank c = false) (h2 : c ≠ 35) (h3 : (pick (c :: r)).2 = 0) : lex p (c :: r) = .error p := by
  simp only [lex, List.length_cons, lexN, h, if_neg h2, if_pos h3]
  rfl
theorem lex_tok {p : Nat} {c : UInt8} {r : L} (h : isBlank c = false) (h2 : c ≠ 35) (h3 : (pick (c :: r)).2 ≠ 0) :
    lex p (c :: r) = cons' ⟨(pick (c :: r)).1, (c :: r).take (pick (c :: r)).2, p⟩ (lex (p + (pick (c :: r)).2) ((c :: r).drop (pick (c :: r)).2)) := by
  have hd : ((c :: r).drop (pick (c :: r)).2).length = r.length + 1 - (pick (c :: r)).2 := by simp
  simp only [lex, List.length_cons, lexN, h, if_neg h2, if_neg h3]
  have he := lexN_more (r.length + 1) (((c :: r).drop (pick (c :: r)).2).length + 1) (p + (pick (c :: r)).2) ((c :: r).drop (pick (c :: r)).2) (by omega) (by omega)
  rw [he]
  simp only [Bool.false_eq_true, if_false]
/-- Induction over a text as it is read. -/
theorem lex_ind {P : Nat → L → Prop} (h0 : ∀ p, P p []) (h1 : ∀ p c r, isBlank c = true → P (p + 1) r → P p (c :: r))
    (h2 : ∀ p r, P (p + (runLen notNl r + 1)) (r.drop (runLen notNl r)) → P p (35 :: r))
    (h3 : ∀ p c r, isBlank c = false → c ≠ 35 → (pick (c :: r)).2 = 0 → P p (c :: r))
    (h4 : ∀ p c r, isBlank c = false → c ≠ 35 → (pick (c :: r)).2 ≠ 0 → P (p + (pick (c :: r)).2) ((c :: r).drop (pick (c :: r)).2) → P p (c :: r)) : ∀ p r, P p r := by
  have main : ∀ n p (r : L), r.length ≤ n → P p r := by
    intro n
    induction n with
    | zero => intro p r h; obtain rfl : r = [] := List.eq_nil_of_length_eq_zero (by omega); exact h0 p
    | succ n ih =>
      intro p r h
      cases r with
      | nil => exact h0 p
      | cons c r =>
        simp only [List.length_cons] at h
        have hp := pick_le (c :: r)
        by_cases hb : isBlank c = true
        · exact h1 p c r hb (ih _ _ (by omega))
        · replace hb : isBlank c = false := by simpa using hb
          by_cases hc : c = 35
          · subst hc; exact h2 p r (ih _ _ (by simp; omega))
          · by_cases h0 : (pick (c :: r)).2 = 0
            · exact h3 p c r hb hc h0
            · exact h4 p c r hb hc h0 (ih _ _ (by simp only [List.length_drop, List.length_cons] at *; omega))
  exact fun p r => main r.length p r (Nat.le_refl _)

/-! ### what stands behind a token -/
theorem runLen_app (p : UInt8 → Bool) (s : L) (c : UInt8) (t : L) (h : p c = false) : runLen p (s ++ c :: t) = runLen p s := by
  induction s with
  | nil => simp [runLen, h]
  | cons a s ih => simp only [List.cons_append, runLen, ih]
theorem runLen_take (p : UInt8 → Bool) (s : L) (m : Nat) : runLen p (s.take m) = min m (runLen p s) := by
  induction s generalizing m with
  | nil => simp [runLen]
  | cons a s ih =>
    cases m with
    | zero => simp [runLen]
    | succ m => simp only [List.take_succ_cons, runLen, ih]; split <;> omega
theorem runLen_all {p : UInt8 → Bool} {r : L} (h : ∀ c ∈ r, p c = true) : runLen p r = r.length := by
  induction r with
  | nil => rfl
  | cons a s ih => simp only [runLen, h a (by simp), if_true, List.length_cons]; rw [ih (fun c hc => h c (by simp [hc]))]
theorem runLen_stop {p : UInt8 → Bool} {r : L} {c : UInt8} {t : L} (h : ∀ c ∈ r, p c = true) (hc : p c = false) : runLen p (r ++ c :: t) = r.length := by rw [runLen_app p r c t hc, runLen_all h]
/-- a byte that goes on with no token -/
def stops (c : UInt8) : Prop := isWordc c = false ∧ c ≠ 46 ∧ c ≠ 61
theorem stops_digit {c : UInt8} (h : stops c) : isDigit c = false := by
  have := h.1
  unfold isWordc at this
  simp only [Bool.or_eq_false_iff] at this
  exact this.1.2
theorem tailLen_app (s : L) (c : UInt8) (t : L) (h : stops c) : tailLen (s ++ c :: t) = tailLen s := by
  cases s with
  | nil =>
    simp only [List.nil_append]
    unfold tailLen
    split
    · rename_i he; injection he with he _; exact absurd he h.2.1
    · rfl
  | cons a s =>
    simp only [List.cons_append]
    by_cases ha : a = 46
    · subst ha
      simp only [tailLen, runLen_app isDigit s c t (stops_digit h)]
    · unfold tailLen
      split
      · rename_i he; injection he with he _; exact absurd he ha
      · split
        · rename_i he; injection he with he _; exact absurd he ha
        · rfl
theorem numLen_app (s : L) (c : UInt8) (t : L) (h : stops c) : numLen (s ++ c :: t) = numLen s := by
  have hr := runLen_le isDigit s
  simp only [numLen, runLen_app isDigit s c t (stops_digit h)]
  rw [List.drop_append_of_le_length hr, tailLen_app _ c t h]
theorem wordLen_app (a : UInt8) (s : L) (c : UInt8) (t : L) (h : stops c) : wordLen (a :: s ++ c :: t) = wordLen (a :: s) := by
  simp only [List.cons_append, wordLen, runLen_app isWordc s c t h.1]
theorem two_app (a : UInt8) (s : L) (c : UInt8) (t : L) (h : stops c) : two (a :: s ++ c :: t) = two (a :: s) := by
  cases s with
  | nil => simp [two, h.2.2]
  | cons b s => rfl
theorem pick_app (a : UInt8) (s : L) (c : UInt8) (t : L) (h : stops c) : pick (a :: s ++ c :: t) = pick (a :: s) := by
  have h1 := wordLen_app a s c t h
  have h2 := numLen_app (a :: s) c t h
  have h3 : signLen (a :: s ++ c :: t) = signLen (a :: s) := by
    simp only [signLen, two_app a s c t h]
    rfl
  simp only [pick, h1, h2, h3]
theorem stops_blank {c : UInt8} (h : isBlank c = true) : stops c := by
  simp only [isBlank, Bool.or_eq_true, beq_iff_eq] at h
  rcases h with ((h | h) | h) | h <;> subst h <;> exact ⟨by decide, by decide, by decide⟩
/-! ### a text that is cut behind its first token -/
theorem tailLen_take (r : L) (m : Nat) (h : tailLen r ≤ m) : tailLen (r.take m) = tailLen r := by
  cases r with
  | nil => simp
  | cons a s =>
    cases m with
    | zero => simp at h ⊢; rw [h]; rfl
    | succ m =>
      simp only [List.take_succ_cons]
      by_cases ha : a = 46
      · subst ha
        simp only [tailLen, runLen_take] at h ⊢
        by_cases hr : 0 < runLen isDigit s
        · rw [if_pos hr] at h ⊢
          rw [if_pos (by omega)]; omega
        · rw [if_neg hr, if_neg (by omega)]
      · unfold tailLen
        split
        · rename_i he; injection he with he _; exact absurd he ha
        · split
          · rename_i he; injection he with he _; exact absurd he ha
          · rfl
theorem numLen_take (r : L) (m : Nat) (h : numLen r ≤ m) : numLen (r.take m) = numLen r := by
  unfold numLen at h ⊢
  rw [runLen_take]
  by_cases h0 : 0 < runLen isDigit r
  · rw [if_pos h0] at h ⊢
    have hm : min m (runLen isDigit r) = runLen isDigit r := by omega
    rw [hm, if_pos h0, List.drop_take, tailLen_take _ _ (by omega)]
  · rw [if_neg h0, if_neg (by omega)]
theorem wordLen_take (r : L) (m : Nat) (h : wordLen r ≤ m) (hm : 0 < m) : wordLen (r.take m) = wordLen r := by
  cases r with
  | nil => simp
  | cons a s =>
    cases m with
    | zero => omega
    | succ m =>
      simp only [List.take_succ_cons, wordLen, runLen_take] at h ⊢
      split at h <;> simp_all <;> omega
theorem pick_take (r : L) (m : Nat) (h : (pick r).2 ≤ m) (h0 : (pick r).2 ≠ 0) : pick (r.take m) = pick r := by
  have hm : 0 < m := by omega
  unfold pick at h h0 ⊢
  by_cases hw : 0 < wordLen r
  · rw [if_pos hw] at h
    rw [wordLen_take r m h hm, if_pos hw, if_pos hw]
  · have hw0 : wordLen r = 0 := by omega
    rw [if_neg hw] at h h0 ⊢
    rw [wordLen_take r m (by omega) hm, if_neg hw]
    by_cases hn : 0 < numLen r
    · rw [if_pos hn] at h ⊢
      rw [numLen_take r m h, if_pos hn]
    · rw [if_neg hn] at h h0 ⊢
      rw [numLen_take r m (by omega), if_neg hn]
      by_cases hs : 0 < signLen r
      · rw [if_pos hs] at h h0 ⊢
        have he : signLen (r.take m) = signLen r := by
          unfold signLen at h ⊢
          by_cases h2 : two r = true
          · rw [if_pos h2] at h ⊢
            have : two (r.take m) = true := by
              match r, m, h2, h with
              | c :: d :: r, m + 2, h2, _ => simpa [two] using h2
            rw [if_pos this]
          · rw [if_neg h2] at h ⊢
            have : ¬ two (r.take m) = true := by
              match r, m, h2 with
              | [], _, _ => simp [two]
              | _, 0, _ => omega
              | [c], m + 1, _ => simp [two]
              | c :: d :: r, 1, _ => simp [two]
              | c :: d :: r, m + 2, h2 => simpa [two] using h2
            rw [if_neg this]
            match r, m, hm with
            | [], _, _ => simp
            | c :: r, m + 1, _ => rfl
        rw [he, if_pos hs]
      · rw [if_neg hs] at h0
        exact absurd rfl h0
end Tk
