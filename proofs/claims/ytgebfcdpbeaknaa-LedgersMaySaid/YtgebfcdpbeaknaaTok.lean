/-
  Tokens of a list of bytes, in plain Lean: what a text's tokens are, and how they behave when texts are cut, joined or spread.
-/
set_option linter.unusedVariables false
set_option linter.unusedSimpArgs false
namespace Tk
abbrev L := List UInt8
def isLetter (c : UInt8) : Bool := (97 ≤ c && c ≤ 122) || (65 ≤ c && c ≤ 90)
def isDigit (c : UInt8) : Bool := 48 ≤ c && c ≤ 57
def isWordc (c : UInt8) : Bool := isLetter c || isDigit c || c == 95
def isBlank (c : UInt8) : Bool := c == 32 || c == 9 || c == 10 || c == 13
def runLen (p : UInt8 → Bool) : L → Nat
  | [] => 0
  | c :: r => if p c then runLen p r + 1 else 0
def wordLen : L → Nat
  | [] => 0
  | c :: r => if isLetter c then runLen isWordc r + 1 else 0
def tailLen : L → Nat   -- a point, and digits
  | 46 :: r => if 0 < runLen isDigit r then runLen isDigit r + 1 else 0
  | _ => 0
def numLen (r : L) : Nat := if 0 < runLen isDigit r then runLen isDigit r + tailLen (r.drop (runLen isDigit r)) else 0
def signs : L := [43, 45, 42, 47, 44, 58, 59, 61, 40, 41, 91, 93]
def two : L → Bool
  | c :: d :: _ => (c == 60 || c == 62) && d == 61
  | _ => false
def signLen (r : L) : Nat := if two r then 2 else match r with | [] => 0 | c :: _ => if signs.contains c then 1 else 0
def pick (r : L) : Nat × Nat := if 0 < wordLen r then (1, wordLen r) else if 0 < numLen r then (2, numLen r) else if 0 < signLen r then (3, signLen r) else (0, 0)
structure Tok where
  kind : Nat
  text : L
  pos : Nat
deriving DecidableEq
def cons' (t : Tok) : Except Nat (List Tok) → Except Nat (List Tok)
  | .ok l => .ok (t :: l)
  | .error a => .error a
def notNl (c : UInt8) : Bool := c != 10
def lexN : Nat → Nat → L → Except Nat (List Tok)
  | 0, _, _ => .ok []
  | _ + 1, _, [] => .ok []
  | k + 1, p, c :: r =>
    if isBlank c then lexN k (p + 1) r
    else if c = 35 then lexN k (p + (runLen notNl r + 1)) (r.drop (runLen notNl r))
    else if (pick (c :: r)).2 = 0 then .error p
    else cons' ⟨(pick (c :: r)).1, (c :: r).take (pick (c :: r)).2, p⟩ (lexN k (p + (pick (c :: r)).2) ((c :: r).drop (pick (c :: r)).2))
def lex (p : Nat) (r : L) : Except Nat (List Tok) := lexN (r.length + 1) p r

theorem runLen_le (p : UInt8 → Bool) (r : L) : runLen p r ≤ r.length := by
  induction r with
  | nil => exact Nat.le_refl _
  | cons c r ih => simp only [runLen, List.length_cons]; split <;> omega
theorem tailLen_le (r : L) : tailLen r ≤ r.length := by
  unfold tailLen
  split
  · rename_i r; have := runLen_le isDigit r; simp only [List.length_cons]; split <;> omega
  · omega
theorem numLen_le (r : L) : numLen r ≤ r.length := by
  unfold numLen
  split
  · have := runLen_le isDigit r; have h := tailLen_le (r.drop (runLen isDigit r)); simp only [List.length_drop] at h; omega
  · omega
theorem wordLen_le (r : L) : wordLen r ≤ r.length := by
  cases r with
  | nil => exact Nat.le_refl _
  | cons c r => have := runLen_le isWordc r; simp only [wordLen, List.length_cons]; split <;> omega
theorem two_len {r : L} (h : two r = true) : 2 ≤ r.length := by
  match r, h with
  | _ :: _ :: r, _ => simp
theorem signLen_le (r : L) : signLen r ≤ r.length := by
  unfold signLen
  split
  · rename_i h; exact two_len h
  · split
    · exact Nat.le_refl _
    · simp only [List.length_cons]; split <;> omega
theorem pick_le (r : L) : (pick r).2 ≤ r.length := by
  have h1 := wordLen_le r; have h2 := numLen_le r; have h3 := signLen_le r
  unfold pick
  repeat' split
  all_goals simp; try omega
theorem pick_pos {r : L} (h : (pick r).2 ≠ 0) : 0 < (pick r).1 ∧ (pick r).1 ≤ 3 := by
  unfold pick at h ⊢
  repeat' split
  all_goals simp_all

/-! ### the number of rounds doesn't matter -/
theorem lexN_more (k : Nat) : ∀ (j p : Nat) (r : L), r.length < k → r.length < j → lexN k p r = lexN j p r := by
  induction k with
  | zero => intro j p r h; omega
  | succ k ih =>
    intro j p r h hj
    cases j with
    | zero => omega
    | succ j =>
      cases r with
      | nil => rfl
      | cons c r =>
        simp only [List.length_cons] at h hj
        have hl := runLen_le notNl r
        have hp := pick_le (c :: r)
        simp only [lexN]
        split
        · exact ih j _ _ (by omega) (by omega)
        · split
          · exact ih j _ _ (by simp; omega) (by simp; omega)
          · split
            · rfl
            · rw [ih j _ _ (by simp; omega) (by simp; omega)]
theorem lex_nil (p : Nat) : lex p [] = .ok [] := rfl
theorem lex_blank {p : Nat} {c : UInt8} {r : L} (h : isBlank c = true) : lex p (c :: r) = lex (p + 1) r := by
  simp only [lex, List.length_cons, lexN, h, if_true]
theorem lex_hash {p : Nat} {r : L} : lex p (35 :: r) = lex (p + (runLen notNl r + 1)) (r.drop (runLen notNl r)) := by
  simp only [lex, List.length_cons, lexN]
  rw [if_neg (by decide), if_pos trivial]
  exact lexN_more _ _ _ _ (by simp; omega) (by simp)
theorem lex_bad {p : Nat} {c : UInt8} {r : L} (h : isBlank c = false) (h2 : c ≠ 35) (h3 : (pick (c :: r)).2 = 0) : lex p (c :: r) = .error p := by
  simp only [lex, List.length_cons, lexN, h, if_neg h2, if_pos h3]
  rfl
theorem lex_tok {p : Nat} {c : UInt8} {r : L} (h : isBlank c = false) (h2 : c ≠ 35) (h3 : (pick (c :: r)).2 ≠ 0) :
    lex p (c :: r) = cons' ⟨(pick (c :: r)).1, (c :: r).take (pick (c :: r)).2, p⟩ (lex (p + (pick (c :: r)).2) ((c :: r).drop (pick (c :: r)).2)) := by
  have hd : ((c :: r).drop (pick (c :: r)).2).length = r.length + 1 - (pick (c :: r)).2 := by simp
  simp only [lex, List.length_cons, lexN, h, if_neg h2, if_neg h3]
  have he := lexN_more (r.length + 1) (((c :: r).drop (pick (c :: r)).2).length + 1) (p + (pick (c :: r)).2) ((c :: r).drop (pick (c :: r)).2) (by omega) (by omega)
  rw [he]
  simp only [Bool.false_eq_true, if_false]
/-- Induction over a text as it is read. -/
theorem lex_ind {P : Nat → L → Prop} (h0 : ∀ p, P p []) (h1 : ∀ p c r, isBlank c = true → P (p + 1) r → P p (c :: r))
    (h2 : ∀ p r, P (p + (runLen notNl r + 1)) (r.drop (runLen notNl r)) → P p (35 :: r))
    (h3 : ∀ p c r, isBlank c = false → c ≠ 35 → (pick (c :: r)).2 = 0 → P p (c :: r))
    (h4 : ∀ p c r, isBlank c = false → c ≠ 35 → (pick (c :: r)).2 ≠ 0 → P (p + (pick (c :: r)).2) ((c :: r).drop (pick (c :: r)).2) → P p (c :: r)) : ∀ p r, P p r := by
  have main : ∀ n p (r : L), r.length ≤ n → P p r := by
    intro n
    induction n with
    | zero => intro p r h; obtain rfl : r = [] := List.eq_nil_of_length_eq_zero (by omega); exact h0 p
    | succ n ih =>
      intro p r h
      cases r with
      | nil => exact h0 p
      | cons c r =>
        simp only [List.length_cons] at h
        have hp := pick_le (c :: r)
        by_cases hb : isBlank c = true
        · exact h1 p c r hb (ih _ _ (by omega))
        · replace hb : isBlank c = false := by simpa using hb
          by_cases hc : c = 35
          · subst hc; exact h2 p r (ih _ _ (by simp; omega))
          · by_cases h0 : (pick (c :: r)).2 = 0
            · exact h3 p c r hb hc h0
            · exact h4 p c r hb hc h0 (ih _ _ (by simp only [List.length_drop, List.length_cons] at *; omega))
  exact fun p r => main r.length p r (Nat.le_refl _)

/-! ### what stands behind a token -/
theorem runLen_app (p : UInt8 → Bool) (s : L) (c : UInt8) (t : L) (h : p c = false) : runLen p (s ++ c :: t) = runLen p s := by
  induction s with
  | nil => simp [runLen, h]
  | cons a s ih => simp only [List.cons_append, runLen, ih]
theorem runLen_take (p : UInt8 → Bool) (s : L) (m : Nat) : runLen p (s.take m) = min m (runLen p s) := by
  induction s generalizing m with
  | nil => simp [runLen]
  | cons a s ih =>
    cases m with
    | zero => simp [runLen]
    | succ m => simp only [List.take_succ_cons, runLen, ih]; split <;> omega
theorem runLen_all {p : UInt8 → Bool} {r : L} (h : ∀ c ∈ r, p c = true) : runLen p r = r.length := by
  induction r with
  | nil => rfl
  | cons a s ih => simp only [runLen, h a (by simp), if_true, List.length_cons]; rw [ih (fun c hc => h c (by simp [hc]))]
theorem runLen_stop {p : UInt8 → Bool} {r : L} {c : UInt8} {t : L} (h : ∀ c ∈ r, p c = true) (hc : p c = false) : runLen p (r ++ c :: t) = r.length := by rw [runLen_app p r c t hc, runLen_all h]
/-- a byte that goes on with no token -/
def stops (c : UInt8) : Prop := isWordc c = false ∧ c ≠ 46 ∧ c ≠ 61
theorem stops_digit {c : UInt8} (h : stops c) : isDigit c = false := by
  have := h.1
  unfold isWordc at this
  simp only [Bool.or_eq_false_iff] at this
  exact this.1.2
theorem tailLen_app (s : L) (c : UInt8) (t : L) (h : stops c) : tailLen (s ++ c :: t) = tailLen s := by
  cases s with
  | nil =>
    simp only [List.nil_append]
    unfold tailLen
    split
    · rename_i he; injection he with he _; exact absurd he h.2.1
    · rfl
  | cons a s =>
    simp only [List.cons_append]
    by_cases ha : a = 46
    · subst ha
      simp only [tailLen, runLen_app isDigit s c t (stops_digit h)]
    · unfold tailLen
      split
      · rename_i he; injection he with he _; exact absurd he ha
      · split
        · rename_i he; injection he with he _; exact absurd he ha
        · rfl
theorem numLen_app (s : L) (c : UInt8) (t : L) (h : stops c) : numLen (s ++ c :: t) = numLen s := by
  have hr := runLen_le isDigit s
  simp only [numLen, runLen_app isDigit s c t (stops_digit h)]
  rw [List.drop_append_of_le_length hr, tailLen_app _ c t h]
theorem wordLen_app (a : UInt8) (s : L) (c : UInt8) (t : L) (h : stops c) : wordLen (a :: s ++ c :: t) = wordLen (a :: s) := by
  simp only [List.cons_append, wordLen, runLen_app isWordc s c t h.1]
theorem two_app (a : UInt8) (s : L) (c : UInt8) (t : L) (h : stops c) : two (a :: s ++ c :: t) = two (a :: s) := by
  cases s with
  | nil => simp [two, h.2.2]
  | cons b s => rfl
theorem pick_app (a : UInt8) (s : L) (c : UInt8) (t : L) (h : stops c) : pick (a :: s ++ c :: t) = pick (a :: s) := by
  have h1 := wordLen_app a s c t h
  have h2 := numLen_app (a :: s) c t h
  have h3 : signLen (a :: s ++ c :: t) = signLen (a :: s) := by
    simp only [signLen, two_app a s c t h]
    rfl
  simp only [pick, h1, h2, h3]
theorem stops_blank {c : UInt8} (h : isBlank c = true) : stops c := by
  simp only [isBlank, Bool.or_eq_true, beq_iff_eq] at h
  rcases h with ((h | h) | h) | h <;> subst h <;> exact ⟨by decide, by decide, by decide⟩
/-! ### a text that is cut behind its first token -/
theorem tailLen_take (r : L) (m : Nat) (h : tailLen r ≤ m) : tailLen (r.take m) = tailLen r := by
  cases r with
  | nil => simp
  | cons a s =>
    cases m with
    | zero => simp at h ⊢; rw [h]; rfl
    | succ m =>
      simp only [List.take_succ_cons]
      by_cases ha : a = 46
      · subst ha
        simp only [tailLen, runLen_take] at h ⊢
        by_cases hr : 0 < runLen isDigit s
        · rw [if_pos hr] at h ⊢
          rw [if_pos (by omega)]; omega
        · rw [if_neg hr, if_neg (by omega)]
      · unfold tailLen
        split
        · rename_i he; injection he with he _; exact absurd he ha
        · split
          · rename_i he; injection he with he _; exact absurd he ha
          · rfl
theorem numLen_take (r : L) (m : Nat) (h : numLen r ≤ m) : numLen (r.take m) = numLen r := by
  unfold numLen at h ⊢
  rw [runLen_take]
  by_cases h0 : 0 < runLen isDigit r
  · rw [if_pos h0] at h ⊢
    have hm : min m (runLen isDigit r) = runLen isDigit r := by omega
    rw [hm, if_pos h0, List.drop_take, tailLen_take _ _ (by omega)]
  · rw [if_neg h0, if_neg (by omega)]
theorem wordLen_take (r : L) (m : Nat) (h : wordLen r ≤ m) (hm : 0 < m) : wordLen (r.take m) = wordLen r := by
  cases r with
  | nil => simp
  | cons a s =>
    cases m with
    | zero => omega
    | succ m =>
      simp only [List.take_succ_cons, wordLen, runLen_take] at h ⊢
      split at h <;> simp_all <;> omega
theorem pick_take (r : L) (m : Nat) (h : (pick r).2 ≤ m) (h0 : (pick r).2 ≠ 0) : pick (r.take m) = pick r := by
  have hm : 0 < m := by omega
  unfold pick at h h0 ⊢
  by_cases hw : 0 < wordLen r
  · rw [if_pos hw] at h
    rw [wordLen_take r m h hm, if_pos hw, if_pos hw]
  · have hw0 : wordLen r = 0 := by omega
    rw [if_neg hw] at h h0 ⊢
    rw [wordLen_take r m (by omega) hm, if_neg hw]
    by_cases hn : 0 < numLen r
    · rw [if_pos hn] at h ⊢
      rw [numLen_take r m h, if_pos hn]
    · rw [if_neg hn] at h h0 ⊢
      rw [numLen_take r m (by omega), if_neg hn]
      by_cases hs : 0 < signLen r
      · rw [if_pos hs] at h h0 ⊢
        have he : signLen (r.take m) = signLen r := by
          unfold signLen at h ⊢
          by_cases h2 : two r = true
          · rw [if_pos h2] at h ⊢
            have : two (r.take m) = true := by
              match r, m, h2, h with
              | c :: d :: r, m + 2, h2, _ => simpa [two] using h2
            rw [if_pos this]
          · rw [if_neg h2] at h ⊢
            have : ¬ two (r.take m) = true := by
              match r, m, h2 with
              | [], _, _ => simp [two]
              | _, 0, _ => omega
              | [c], m + 1, _ => simp [two]
              | c :: d :: r, 1, _ => simp [two]
              | c :: d :: r, m + 2, h2 => simpa [two] using h2
            rw [if_neg this]
            match r, m, hm with
            | [], _, _ => simp
            | c :: r, m + 1, _ => rfl
        rw [he, if_pos hs]
      · rw [if_neg hs] at h0
        exact absurd rfl h0

/-! ### places: what stands between the tokens -/
def gap : Bool → L → Option Bool
  | b, [] => some b
  | b, c :: r => if c = 10 then gap false r else if b then gap true r else if c = 35 then gap true r else if c = 32 ∨ c = 9 ∨ c = 13 then gap false r else none
inductive Good : Nat → L → List Tok → Prop
  | last (p : Nat) (r : L) (h : (gap false r).isSome = true) : Good p r []
  | more (p : Nat) (r : L) (n : Nat) (t : Tok) (l : List Tok) (h1 : t.pos = p + n) (h2 : n + t.text.length ≤ r.length) (h3 : (gap false (r.take n)).isSome = true) (h4 : t.text ≠ []) (h5 : (r.drop n).take t.text.length = t.text) (h6 : 1 ≤ t.kind ∧ t.kind ≤ 3) (h7 : Good (p + n + t.text.length) (r.drop (n + t.text.length)) l) : Good p r (t :: l)
theorem gap_true_app (x y : L) (h : ∀ c ∈ x, notNl c = true) : gap true (x ++ y) = gap true y := by
  induction x with
  | nil => rfl
  | cons c x ih =>
    have hc : c ≠ 10 := by have := h c (by simp); simpa [notNl] using this
    simp only [List.cons_append, gap, if_neg hc, if_true]
    exact ih (fun c hc => h c (by simp [hc]))
theorem runLen_prefix (p : UInt8 → Bool) (r : L) : ∀ c ∈ r.take (runLen p r), p c = true := by
  induction r with
  | nil => simp
  | cons a r ih =>
    intro c hc
    simp only [runLen] at hc
    split at hc
    · rename_i h
      simp only [List.take_succ_cons, List.mem_cons] at hc
      rcases hc with rfl | hc
      · exact h
      · exact ih c hc
    · simp at hc
theorem runLen_next (p : UInt8 → Bool) (r : L) : r.drop (runLen p r) = [] ∨ ∃ c t, r.drop (runLen p r) = c :: t ∧ p c = false := by
  induction r with
  | nil => exact .inl rfl
  | cons a r ih =>
    simp only [runLen]
    split
    · rw [List.drop_succ_cons]; exact ih
    · rename_i h; exact .inr ⟨a, r, rfl, by simpa using h⟩
theorem gap_up {y : L} (h : (gap false y).isSome = true) (hy : y = [] ∨ ∃ t, y = 10 :: t) : (gap true y).isSome = true := by
  rcases hy with rfl | ⟨t, rfl⟩
  · rfl
  · simpa [gap] using h
theorem gap_line (r : L) (n : Nat) (h : (gap false ((r.drop (runLen notNl r)).take n)).isSome = true) : (gap false ((35 :: r).take (runLen notNl r + 1 + n))).isSome = true := by
  have e : (35 :: r).take (runLen notNl r + 1 + n) = 35 :: (r.take (runLen notNl r) ++ (r.drop (runLen notNl r)).take n) := by
    rw [show runLen notNl r + 1 + n = (runLen notNl r + n) + 1 by omega, List.take_succ_cons, List.take_add]
  rw [e]
  simp only [gap]
  rw [if_neg (by decide), if_neg (by decide), if_pos trivial, gap_true_app _ _ (runLen_prefix notNl r)]
  refine gap_up h ?_
  rcases runLen_next notNl r with h1 | ⟨c, t, h1, h2⟩
  · left; rw [h1]; simp
  · have hc : c = 10 := by simpa [notNl] using h2
    subst hc
    rw [h1]
    cases n with
    | zero => exact .inl rfl
    | succ n => exact .inr ⟨t.take n, rfl⟩
theorem gap_blank {c : UInt8} (r : L) (h : isBlank c = true) : gap false (c :: r) = gap false r := by
  simp only [isBlank, Bool.or_eq_true, beq_iff_eq] at h
  simp only [gap]
  by_cases h1 : c = 10
  · rw [if_pos h1]
  · have h2 : c ≠ 35 := by rintro rfl; revert h; decide
    rw [if_neg h1, if_neg (by decide), if_neg h2, if_pos (by rcases h with ((h | h) | h) | h <;> simp_all)]
theorem lex_good : ∀ p r, ∀ l, lex p r = .ok l → Good p r l := by
  refine lex_ind (P := fun p r => ∀ l, lex p r = .ok l → Good p r l) ?_ ?_ ?_ ?_ ?_
  · intro p l h
    rw [lex_nil] at h
    injection h with h
    subst h
    exact .last p [] rfl
  · intro p c r hc ih l h
    rw [lex_blank hc] at h
    rcases ih l h with ⟨_, _, h1⟩ | ⟨_, _, n, t, l, h1, h2, h3, h4, h5, h6, h7⟩
    · exact .last _ _ (by rw [gap_blank r hc]; exact h1)
    · refine .more p (c :: r) (n + 1) t l (by omega) (by simp only [List.length_cons]; omega) (by rw [List.take_succ_cons, gap_blank _ hc]; exact h3) h4 (by rw [List.drop_succ_cons]; exact h5) h6 ?_
      rw [show p + (n + 1) + t.text.length = p + 1 + n + t.text.length by omega, show n + 1 + t.text.length = (n + t.text.length) + 1 by omega, List.drop_succ_cons]
      exact h7
  · intro p r ih l h
    rw [lex_hash] at h
    have hl := runLen_le notNl r
    rcases ih l h with ⟨_, _, h1⟩ | ⟨_, _, n, t, l, h1, h2, h3, h4, h5, h6, h7⟩
    · refine .last _ _ ?_
      have := gap_line r r.length (by rw [List.take_of_length_le (by simp)]; exact h1)
      rwa [List.take_of_length_le (by simp; omega)] at this
    · simp only [List.length_drop] at h2
      refine .more p (35 :: r) (runLen notNl r + 1 + n) t l (by omega) (by simp only [List.length_cons]; omega) (gap_line r n h3) h4 ?_ h6 ?_
      · rw [show runLen notNl r + 1 + n = (runLen notNl r + n) + 1 by omega, List.drop_succ_cons, ← List.drop_drop]; exact h5
      · rw [show runLen notNl r + 1 + n + t.text.length = (runLen notNl r + (n + t.text.length)) + 1 by omega, List.drop_succ_cons, ← List.drop_drop, show p + (runLen notNl r + 1 + n) + t.text.length = p + (runLen notNl r + 1) + n + t.text.length by omega]
        exact h7
  · intro p c r hb hc h0 l h
    rw [lex_bad hb hc h0] at h
    cases h
  · intro p c r hb hc h0 ih l h
    rw [lex_tok hb hc h0] at h
    have hp := pick_le (c :: r)
    match hx : lex (p + (pick (c :: r)).2) ((c :: r).drop (pick (c :: r)).2) with
    | .error a => rw [hx] at h; cases h
    | .ok m =>
      rw [hx] at h
      injection h with h
      subst h
      have hl : ((c :: r).take (pick (c :: r)).2).length = (pick (c :: r)).2 := by rw [List.length_take]; omega
      refine .more p (c :: r) 0 _ m rfl (by rw [hl]; omega) rfl ?_ ?_ (pick_pos h0) ?_
      · intro he; rw [show (c :: r).take (pick (c :: r)).2 = [] from he] at hl; simp at hl; omega
      · rw [List.drop_zero, hl]
      · rw [hl, Nat.zero_add, Nat.add_zero]; exact ih m hx
theorem lex_error : ∀ p r, ∀ a, lex p r = .error a → p ≤ a ∧ a < p + r.length := by
  refine lex_ind (P := fun p r => ∀ a, lex p r = .error a → p ≤ a ∧ a < p + r.length) ?_ ?_ ?_ ?_ ?_
  · intro p a h; cases h
  · intro p c r hc ih a h
    rw [lex_blank hc] at h
    have := ih a h
    simp only [List.length_cons]; omega
  · intro p r ih a h
    rw [lex_hash] at h
    have := ih a h
    have hl := runLen_le notNl r
    simp only [List.length_cons, List.length_drop] at *; omega
  · intro p c r hb hc h0 a h
    rw [lex_bad hb hc h0] at h
    injection h with h
    simp only [List.length_cons]; omega
  · intro p c r hb hc h0 ih a h
    rw [lex_tok hb hc h0] at h
    have hp := pick_le (c :: r)
    match hx : lex (p + (pick (c :: r)).2) ((c :: r).drop (pick (c :: r)).2) with
    | .ok m => rw [hx] at h; cases h
    | .error b =>
      rw [hx] at h
      injection h with h
      subst h
      have := ih b hx
      simp only [List.length_drop] at this; omega

/-! ### tokens with something between -/
/-- a token's text is that token, alone -/
def Solid (t : Tok) : Prop := ∃ c r, t.text = c :: r ∧ isBlank c = false ∧ c ≠ 35 ∧ pick (c :: r) = (t.kind, (c :: r).length)
theorem lex_solid : ∀ p r, ∀ l, lex p r = .ok l → ∀ t ∈ l, Solid t := by
  refine lex_ind (P := fun p r => ∀ l, lex p r = .ok l → ∀ t ∈ l, Solid t) ?_ ?_ ?_ ?_ ?_
  · intro p l h
    rw [lex_nil] at h
    injection h with h
    subst h
    simp
  · intro p c r hc ih l h
    rw [lex_blank hc] at h
    exact ih l h
  · intro p r ih l h
    rw [lex_hash] at h
    exact ih l h
  · intro p c r hb hc h0 l h
    rw [lex_bad hb hc h0] at h
    cases h
  · intro p c r hb hc h0 ih l h
    rw [lex_tok hb hc h0] at h
    have hp := pick_le (c :: r)
    match hx : lex (p + (pick (c :: r)).2) ((c :: r).drop (pick (c :: r)).2) with
    | .error a => rw [hx] at h; cases h
    | .ok m =>
      rw [hx] at h
      injection h with h
      subst h
      intro t ht
      rcases List.mem_cons.1 ht with rfl | ht
      · obtain ⟨n, hn⟩ : ∃ n, (pick (c :: r)).2 = n + 1 := ⟨(pick (c :: r)).2 - 1, by omega⟩
        have he := pick_take (c :: r) (pick (c :: r)).2 (Nat.le_refl _) h0
        refine ⟨c, r.take n, by rw [hn]; rfl, hb, hc, ?_⟩
        have hl : ((c :: r).take (pick (c :: r)).2).length = (pick (c :: r)).2 := by rw [List.length_take]; omega
        rw [← List.take_succ_cons, ← hn, he, hl]
      · exact ih m hx t ht
def spread (b : L) : Nat → List Tok → List Tok
  | _, [] => []
  | q, t :: l => ⟨t.kind, t.text, q⟩ :: spread b (q + t.text.length + b.length) l
def cat (b : L) : List Tok → L
  | [] => []
  | t :: l => t.text ++ b ++ cat b l
theorem lex_solid_then {t : Tok} (ht : Solid t) (q : Nat) (c0 : UInt8) (x : L) (h : stops c0) : lex q (t.text ++ c0 :: x) = cons' ⟨t.kind, t.text, q⟩ (lex (q + t.text.length) (c0 :: x)) := by
  obtain ⟨c, r, h1, h2, h3, h4⟩ := ht
  have hp := pick_app c r c0 x h
  rw [h4] at hp
  rw [h1, List.cons_append, lex_tok h2 h3 (by rw [← List.cons_append, hp]; simp), ← List.cons_append, hp]
  simp only [List.take_left, List.drop_left]
theorem lex_solid_end {t : Tok} (ht : Solid t) (q : Nat) : lex q t.text = .ok [⟨t.kind, t.text, q⟩] := by
  obtain ⟨c, r, h1, h2, h3, h4⟩ := ht
  rw [h1, lex_tok h2 h3 (by rw [h4]; simp), h4]
  simp only [List.take_length, List.drop_length, lex_nil, cons']
theorem lex_spread (b : L) (c0 : UInt8) (b' : L) (hb : b = c0 :: b') (hc : stops c0) (hskip : ∀ q x, lex q (b ++ x) = lex (q + b.length) x) (l : List Tok) : ∀ q, (∀ t ∈ l, Solid t) → lex q (cat b l) = .ok (spread b q l) := by
  induction l with
  | nil => intro q _; rfl
  | cons t l ih =>
    intro q h
    have h1 := lex_solid_then (h t (by simp)) q c0 (b' ++ cat b l) hc
    rw [← List.cons_append, ← hb, hskip, ih _ (fun t ht => h t (by simp [ht]))] at h1
    rw [cat, List.append_assoc, h1]
    rfl
theorem skip_blank {c : UInt8} (h : isBlank c = true) (q : Nat) (x : L) : lex q ([c] ++ x) = lex (q + [c].length) x := lex_blank h
theorem skip_line (q : Nat) (x : L) : lex q ([32, 35, 32, 120, 10] ++ x) = lex (q + ([32, 35, 32, 120, 10] : L).length) x := by
  have hr : runLen notNl (32 :: 120 :: 10 :: x) = 2 := by simp [runLen, notNl]
  rw [show ([32, 35, 32, 120, 10] ++ x : L) = 32 :: 35 :: 32 :: 120 :: 10 :: x from rfl, lex_blank (by decide), lex_hash, hr]
  rw [show (32 :: 120 :: 10 :: x : L).drop 2 = 10 :: x from rfl, lex_blank (by decide)]
  rfl
theorem spread_len (b : L) (l : List Tok) : ∀ q, (spread b q l).length = l.length := by
  induction l with
  | nil => intro q; rfl
  | cons t l ih => intro q; simp [spread, ih]
def textLen : List Tok → Nat
  | [] => 0
  | t :: l => t.text.length + textLen l
theorem cat_len (b : L) (l : List Tok) : (cat b l).length = textLen l + l.length * b.length := by
  induction l with
  | nil => simp [cat, textLen]
  | cons t l ih => simp only [cat, textLen, List.length_append, List.length_cons, ih, Nat.add_mul]; omega
theorem good_text : ∀ (q : Nat) (r : L) (l : List Tok), Good q r l → textLen l ≤ r.length ∧ l.length ≤ r.length := by
  intro q r l h
  induction h with
  | last => simp [textLen]
  | more p r n t l h1 h2 h3 h4 h5 h6 _ ih =>
    have := List.length_pos_iff.2 h4
    simp only [List.length_cons, List.length_drop, textLen] at *
    omega

/-! ### two texts with a line's end between -/
def joinR : Except Nat (List Tok) → Except Nat (List Tok) → Except Nat (List Tok)
  | .error a, _ => .error a
  | .ok _, .error a => .error a
  | .ok l, .ok m => .ok (l ++ m)
theorem joinR_cons (t : Tok) (x y : Except Nat (List Tok)) : joinR (cons' t x) y = cons' t (joinR x y) := by
  cases x <;> cases y <;> rfl
theorem joinR_nil (y : Except Nat (List Tok)) : joinR (.ok []) y = y := by cases y <;> rfl
theorem lex_join (t : L) : ∀ p s, lex p (s ++ 10 :: t) = joinR (lex p s) (lex (p + s.length + 1) t) := by
  refine lex_ind (P := fun p s => lex p (s ++ 10 :: t) = joinR (lex p s) (lex (p + s.length + 1) t)) ?_ ?_ ?_ ?_ ?_
  · intro p
    rw [List.nil_append, lex_blank (by decide), lex_nil, joinR_nil]
    rfl
  · intro p c r hc ih
    rw [List.cons_append, lex_blank hc, lex_blank hc, ih, List.length_cons]
    congr 2; omega
  · intro p r ih
    have hl := runLen_le notNl r
    rw [List.cons_append, lex_hash, lex_hash, runLen_app notNl r 10 t (by decide), List.drop_append_of_le_length hl, ih, List.length_drop, List.length_cons]
    congr 2; omega
  · intro p c r hb hc h0
    have hp := pick_app c r 10 t (stops_blank (by decide))
    rw [List.cons_append, lex_bad hb hc (by rw [← List.cons_append, hp]; exact h0), lex_bad hb hc h0]
    rfl
  · intro p c r hb hc h0 ih
    have hp := pick_app c r 10 t (stops_blank (by decide))
    have hle := pick_le (c :: r)
    rw [List.cons_append, lex_tok hb hc (by rw [← List.cons_append, hp]; exact h0), lex_tok hb hc h0, joinR_cons, ← List.cons_append, hp, List.take_append_of_le_length hle, List.drop_append_of_le_length hle, ih, List.length_drop]
    congr 3; omega
def shift (d : Nat) : Except Nat (List Tok) → Except Nat (List Tok)
  | .error a => .error (d + a)
  | .ok l => .ok (l.map fun t => ⟨t.kind, t.text, d + t.pos⟩)
theorem shift_cons (d : Nat) (t : Tok) (x : Except Nat (List Tok)) : shift d (cons' t x) = cons' ⟨t.kind, t.text, d + t.pos⟩ (shift d x) := by cases x <;> rfl
theorem lex_shift (d : Nat) : ∀ p s, lex (d + p) s = shift d (lex p s) := by
  refine lex_ind (P := fun p s => lex (d + p) s = shift d (lex p s)) ?_ ?_ ?_ ?_ ?_
  · intro p; rfl
  · intro p c r hc ih
    rw [lex_blank hc, lex_blank hc, ← ih]; rfl
  · intro p r ih
    rw [lex_hash, lex_hash, ← ih, Nat.add_assoc]
  · intro p c r hb hc h0
    rw [lex_bad hb hc h0, lex_bad hb hc h0]; rfl
  · intro p c r hb hc h0 ih
    rw [lex_tok hb hc h0, lex_tok hb hc h0, shift_cons, ← ih, Nat.add_assoc]
/-! ### a text that ends where a token begins -/
theorem lex_ahead : ∀ p r, ∀ l, lex p r = .ok l → ∀ (k : Nat) (t : Tok), l[k]? = some t → p ≤ t.pos ∧ t.pos ≤ p + r.length ∧ lex p (r.take (t.pos - p)) = .ok (l.take k) := by
  refine lex_ind (P := fun p r => ∀ l, lex p r = .ok l → ∀ (k : Nat) (t : Tok), l[k]? = some t → p ≤ t.pos ∧ t.pos ≤ p + r.length ∧ lex p (r.take (t.pos - p)) = .ok (l.take k)) ?_ ?_ ?_ ?_ ?_
  · intro p l h k t hk
    rw [lex_nil] at h
    injection h with h
    subst h
    simp at hk
  · intro p c r hc ih l h k t hk
    rw [lex_blank hc] at h
    obtain ⟨h1, h2, h3⟩ := ih l h k t hk
    refine ⟨by omega, by simp only [List.length_cons]; omega, ?_⟩
    rw [show t.pos - p = (t.pos - (p + 1)) + 1 by omega, List.take_succ_cons, lex_blank hc, h3]
  · intro p r ih l h k t hk
    rw [lex_hash] at h
    have hl := runLen_le notNl r
    obtain ⟨h1, h2, h3⟩ := ih l h k t hk
    rw [List.length_drop] at h2
    refine ⟨by omega, by simp only [List.length_cons]; omega, ?_⟩
    rw [show t.pos - p = (t.pos - (p + (runLen notNl r + 1)) + runLen notNl r) + 1 by omega, List.take_succ_cons, lex_hash, runLen_take, show min (t.pos - (p + (runLen notNl r + 1)) + runLen notNl r) (runLen notNl r) = runLen notNl r by omega, List.drop_take, show t.pos - (p + (runLen notNl r + 1)) + runLen notNl r - runLen notNl r = t.pos - (p + (runLen notNl r + 1)) by omega, h3]
  · intro p c r hb hc h0 l h
    rw [lex_bad hb hc h0] at h
    cases h
  · intro p c r hb hc h0 ih l h k t hk
    rw [lex_tok hb hc h0] at h
    have hp := pick_le (c :: r)
    match hx : lex (p + (pick (c :: r)).2) ((c :: r).drop (pick (c :: r)).2) with
    | .error a => rw [hx] at h; cases h
    | .ok m =>
      rw [hx] at h
      injection h with h
      subst h
      cases k with
      | zero =>
        simp at hk
        subst hk
        exact ⟨Nat.le_refl _, Nat.le_add_right _ _, by simp [lex_nil]⟩
      | succ k =>
        simp only [List.getElem?_cons_succ] at hk
        obtain ⟨h1, h2, h3⟩ := ih m hx k t hk
        rw [List.length_drop] at h2
        refine ⟨by omega, by omega, ?_⟩
        have hn : (pick (c :: r)).2 ≤ t.pos - p := by omega
        have he := pick_take (c :: r) (t.pos - p) hn h0
        have hs : (c :: r).take (t.pos - p) = c :: r.take (t.pos - p - 1) := by
          rw [show t.pos - p = (t.pos - p - 1) + 1 by omega, List.take_succ_cons]
          rfl
        rw [hs] at he ⊢
        rw [lex_tok hb hc (by rw [he]; exact h0), he, ← hs, List.take_take, show min (pick (c :: r)).2 (t.pos - p) = (pick (c :: r)).2 by omega, List.drop_take, show t.pos - p - (pick (c :: r)).2 = t.pos - (p + (pick (c :: r)).2) by omega, h3]
        rfl
/-! ### digits -/
theorem digit_plain (c : UInt8) (h : isDigit c = true) : isBlank c = false ∧ c ≠ 35 ∧ isLetter c = false := by
  have hc := c.toNat_lt
  simp only [isDigit, Bool.and_eq_true, decide_eq_true_iff, UInt8.le_iff_toNat_le] at h
  have h1 : (48 : UInt8).toNat = 48 := rfl
  have h2 : (57 : UInt8).toNat = 57 := rfl
  refine ⟨?_, ?_, ?_⟩
  · rw [Bool.eq_false_iff]
    intro e
    simp only [isBlank, Bool.or_eq_true, beq_iff_eq] at e
    rcases e with ((e | e) | e) | e <;> subst e <;> revert h <;> decide
  · rintro rfl; revert h; decide
  · rw [Bool.eq_false_iff]
    intro e
    simp only [isLetter, Bool.or_eq_true, Bool.and_eq_true, decide_eq_true_iff, UInt8.le_iff_toNat_le] at e
    have h3 : (97 : UInt8).toNat = 97 := rfl
    have h4 : (65 : UInt8).toNat = 65 := rfl
    omega
def digits (d : L) : Prop := d ≠ [] ∧ ∀ c ∈ d, isDigit c = true
/-- digits, or digits around a point -/
inductive Numeral : L → Prop
  | one (d : L) (h : digits d) : Numeral d
  | two (d e : L) (h : digits d) (h2 : digits e) : Numeral (d ++ 46 :: e)
theorem numeral_pick {s : L} (h : Numeral s) (c : UInt8) (hc : c = 120 ∨ c = 46) : pick (s ++ [c]) = (2, s.length) ∧ ∃ a r, s = a :: r ∧ isBlank a = false ∧ a ≠ 35 := by
  have hcd : isDigit c = false := by rcases hc with rfl | rfl <;> decide
  have ht : tailLen [c] = 0 := by rcases hc with rfl | rfl <;> decide
  have key : ∀ (a : UInt8) (r : L) (n : Nat), isDigit a = true → numLen (a :: r) = n → 0 < n → pick (a :: r) = (2, n) := by
    intro a r n ha hn h0
    unfold pick
    have hw : wordLen (a :: r) = 0 := by simp only [wordLen, (digit_plain a ha).2.2]; rfl
    rw [hw, if_neg (by omega), hn, if_pos h0]
  cases h with
  | one _ h =>
    match s, h with
    | a :: r, h =>
      have ha := h.2 a (by simp)
      have hr : runLen isDigit ((a :: r) ++ [c]) = (a :: r).length := runLen_stop h.2 hcd
      refine ⟨?_, a, r, rfl, (digit_plain a ha).1, (digit_plain a ha).2.1⟩
      refine key a (r ++ [c]) _ ha ?_ (by simp)
      unfold numLen
      rw [← List.cons_append, hr, if_pos (by simp), List.drop_left, ht]
      rfl
    | [], h => exact absurd rfl h.1
  | two d e h h2 =>
    match d, h with
    | a :: r, h =>
      have ha := h.2 a (by simp)
      have hr : runLen isDigit ((a :: r) ++ 46 :: (e ++ [c])) = (a :: r).length := runLen_stop h.2 (by decide)
      have he : runLen isDigit (e ++ [c]) = e.length := runLen_stop h2.2 hcd
      have he0 := List.length_pos_iff.2 h2.1
      refine ⟨?_, a, r ++ 46 :: e, rfl, (digit_plain a ha).1, (digit_plain a ha).2.1⟩
      rw [List.append_assoc, List.cons_append, List.cons_append]
      refine key a (r ++ 46 :: (e ++ [c])) _ ha ?_ (by simp)
      unfold numLen
      rw [← List.cons_append, hr, if_pos (by simp), List.drop_left]
      simp only [tailLen, he]
      rw [if_pos he0]
      simp
      omega
    | [], h => exact absurd rfl h.1
theorem numeral_x {s : L} (h : Numeral s) : lex 0 (s ++ [120]) = .ok [⟨2, s, 0⟩, ⟨1, [120], s.length⟩] := by
  obtain ⟨hp, a, r, rfl, hb, hc⟩ := numeral_pick h 120 (.inl rfl)
  rw [List.cons_append, lex_tok hb hc (by rw [← List.cons_append, hp]; simp), ← List.cons_append, hp]
  simp only [List.take_left, List.drop_left, Nat.zero_add]
  rw [lex_tok (by decide) (by decide) (by decide)]
  rfl
theorem numeral_point {s : L} (h : Numeral s) : lex 0 (s ++ [46]) = .error s.length := by
  obtain ⟨hp, a, r, rfl, hb, hc⟩ := numeral_pick h 46 (.inr rfl)
  rw [List.cons_append, lex_tok hb hc (by rw [← List.cons_append, hp]; simp), ← List.cons_append, hp]
  simp only [List.take_left, List.drop_left, Nat.zero_add]
  rw [lex_bad (by decide) (by decide) (by decide)]
  rfl
end Tk
