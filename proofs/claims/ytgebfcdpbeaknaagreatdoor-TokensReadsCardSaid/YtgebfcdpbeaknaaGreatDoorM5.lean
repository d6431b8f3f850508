/-
  Texts of ours, packed (wip/merge.py): ReadsLaw, Tok, TokGo, RefWord, RefRead, ReadsAny.
-/
import Derived.Test.YtgebfcdpbeaknaaGreatDoorM2
import Derived.Test.YtgebfcdpbeaknaaGreatDoorM3
import Derived.Test.YtgebfcdpbeaknaaGreatDoorM4
import Derived.Lib.IndexLaws
/-! #### ReadsLaw -/
section
set_option linter.unusedVariables false
set_option linter.unusedSimpArgs false
namespace Go.Proofs.YtgebfcdpbeaknaaGreatDoor.Bk
open Go Go.RowKit Go.Proofs.YtgebfcdpbeaknaaGreatDoor.X Go.Proofs.YtgebfcdpbeaknaaGreatDoorW.PrintWords Go.Proofs.YtgebfcdpbeaknaaGreatDoorW.PrintLast
attribute [local go_sem] Oper.semAt_some
set_option maxHeartbeats 2000000 in
set_option maxRecDepth 100000 in
theorem Tokens.calls (base : Nat) (w : World) (kb : Nat) (n : Int) (At : Option Addr) (m ct : Nat) (xs : List Value) (A : Option Addr) (len c : Nat) (hbase : base ≤ w.heap.size) (hkb : base ≤ kb) (hm : m ≤ 100) (hn : 0 ≤ n ∧ n ≤ 100) (hL : Lies w kb n (.slice At m ct)) (hO : w.ownsRow base 63 3 (.slice At m ct) m xs) :
    Calls Tryz.prog 7 #[.pointer (some ⟨kb, 0, none⟩), .slice A len c] w fun e w' => e = .returned (.tuple #[]) ∧ ∃ A1 c1, Lies w' kb (n + 1) (.slice A1 (m + 1) c1) ∧
      w'.ownsRow base 63 3 (.slice A1 (m + 1) c1) (m + 1) (xs ++ [.slice A len c, .slice none 0 0, .int .i64 (n + 1)]) ∧ Below base w w' ∧ ∀ b, b < w.heap.size → b ≠ kb → some b ≠ (Value.slice At m ct).ownBlock → w'.heap[b]? = w.heap[b]? := by
  have HL := Aside0.mk hL
  have HO := Aside0.mk hO
  clear hL hO
  go_enter Tryz.func7, Tryz.ntmps7
  go_wp2_with fail
  refine (Bk_keepToken.calls base _ kb n At m ct xs A len c (by exact hbase) hkb hm hn (by exact HL.out) (by exact HO.out)).mono ?_
  rintro e w1 ⟨rfl, h⟩
  have H := Aside0.mk h
  clear h
  go_wp2
  go_end0
  exact ⟨rfl, H.out⟩
set_option maxHeartbeats 2000000 in
set_option maxRecDepth 100000 in
theorem reads.great (s : ByteArray) (w : World) (h : s.size > 100000) :
    Calls Tryz.prog 3 #[.string s] w fun e w' => e = .returned (.bool true) ∧ Below w.heap.size w w' := by
  have hd0 : decide ((100000 : Int) < (s.size : Int)) = true := decide_eq_true (by omega)
  have hd1 : decide (100000 < s.size) = true := decide_eq_true (by omega)
  go_enter Tryz.func3, Tryz.ntmps3
  go_wp2
  go_ret
  exact ⟨rfl, Below.refl _ _⟩
set_option maxHeartbeats 4000000 in
set_option maxRecDepth 100000 in
theorem reads.small (k : Nat) (s : ByteArray) (w : World) (l l' : List S52) (n e : Int) (hs : ¬ s.size > 100000) (h1 : tokens_Read.f k s = some (l, n, e)) (h2 : assayerref06_Read.f k s = some (l', n, e)) (h3 : assayerlaw01_SameTokens.f k l l' = some true) (hl : l.length ≤ 1000000) :
    Calls Tryz.prog 3 #[.string s] w fun e w' => e = .returned (.bool true) ∧ Below w.heap.size w w' := by
  have hd0 : decide ((100000 : Int) < (s.size : Int)) = false := decide_eq_false (by omega)
  have hd1 : decide (100000 < s.size) = false := decide_eq_false (by omega)
  go_enter Tryz.func3, Tryz.ntmps3
  go_wp2_with fail
  refine (tokens_Read.calls k s l n e _ h1).mono ?_
  rintro e1 w1 ⟨va, rfl, hR1, hB1⟩
  have HA1 := Aside0.mk hR1
  have HB1 := Aside0.mk hB1
  clear hR1 hB1
  go_wp2_with fail
  refine (tokens_Read.calls k s l n e _ h1).mono ?_
  rintro e2 w2 ⟨vb, rfl, hR2, hB2⟩
  have HA2 := Aside0.mk (Kd.R_below HA1.out (show Below w1.heap.size w1 w2 from hB2))
  have HR2 := Aside0.mk hR2
  have HB2 := Aside0.mk (show Below w1.heap.size w1 w2 from hB2)
  clear hR2 hB2
  go_wp2_with fail
  refine (assayerref06_Read.calls k s l' n e _ h2).mono ?_
  rintro e3 w3 ⟨vc, rfl, hR3, hB3⟩
  obtain ⟨A, ca, rfl, hca, hCa⟩ := Kd.R_reads (Kd.R_below HA2.out (show Below w2.heap.size w2 w3 from hB3))
  obtain ⟨B, cb, rfl, hcb, hCb⟩ := Kd.R_reads (Kd.R_below HR2.out (show Below w2.heap.size w2 w3 from hB3))
  obtain ⟨C, cc, rfl, hcc, hCc⟩ := Kd.R_reads hR3
  have HD := Aside0.mk (show (Value.slice A l.length ca).ownBlock = none ∨ (Value.slice A l.length ca).ownBlock ≠ (Value.slice B l.length cb).ownBlock by
    cases hk : (Value.slice A l.length ca).ownBlock with
    | none => exact .inl rfl
    | some b =>
      refine .inr fun he => ?_
      have h5 := Kd.R_lt HA1.out b hk
      have h6 := Kd.R_base HR2.out b he.symm
      omega)
  have HCa := Aside0.mk hCa
  have HCb := Aside0.mk hCb
  have HCc := Aside0.mk hCc
  have HB3 := Aside0.mk (show Below w2.heap.size w2 w3 from hB3)
  have HRa := Aside0.mk (Kd.R_below HA2.out (show Below w2.heap.size w2 w3 from hB3))
  have HRb := Aside0.mk (Kd.R_below HR2.out (show Below w2.heap.size w2 w3 from hB3))
  clear hCa hCb hCc hB3 HA2 HR2 HA1 hR3
  go_wp2_with fail
  refine (assayerlaw01_SameTokens.calls k A ca l C cc l' true _ (by exact HCa.out) hca (by exact HCc.out) hcc h3).mono ?_
  rintro e4 w4 ⟨rfl, m4, rfl⟩
  go_wp2_with fail
  refine (assayerlaw01_SameTokens.calls k B cb l C cc l' true _ (by exact Kd.C_drewN HCb.out _) hcb (by exact Kd.C_drewN HCc.out _) hcc h3).mono ?_
  rintro e5 w5 ⟨rfl, hd5⟩
  have HRa5 := Aside0.mk (show k52.R 52 w5 w.heap.size (fun _ => True) (.slice A l.length ca) l by obtain ⟨m, rfl⟩ := hd5; exact Kd.R_drewN (Kd.R_drewN HRa.out _) _)
  have HRb5 := Aside0.mk (show k52.R 52 w5 w1.heap.size (fun _ => True) (.slice B l.length cb) l by obtain ⟨m, rfl⟩ := hd5; exact Kd.R_drewN (Kd.R_drewN HRb.out _) _)
  have HB5 := Aside0.mk (show Below w.heap.size w w5 by obtain ⟨m, rfl⟩ := hd5; exact pw_below_drewN (pw_below_drewN ((HB1.out.trans (HB2.out.mono HB1.out.size)).trans (HB3.out.mono (Nat.le_trans HB1.out.size HB2.out.size))) _) _)
  clear hd5 HRa HRb HCa HCb HCc
  go_wp2_with fail
  obtain ⟨W6, hW6⟩ : ∃ W, W = w5.alloc (.cells #[.int .i64 0, .slice none 0 0, .slice none 0 0, .slice none 0 0, .slice none 0 0, .slice none 0 0, .slice none 0 0, .slice none 0 0, .slice none 0 0, .slice none 0 0, .slice none 0 0, .slice none 0 0, .slice none 0 0] 40) := ⟨_, rfl⟩
  have hs6 : W6.heap.size = w5.heap.size + 1 := by rw [hW6]; exact Array.size_push _
  have hB6 : Below w5.heap.size w5 W6 := by rw [hW6]; exact below_alloc (Below.refl _ _) _
  have hL6 : Lies W6 w5.heap.size 0 (.slice none 0 0) := by rw [hW6]; exact Array.getElem?_push_size
  rw [← hW6]
  have HL6 := Aside0.mk hL6
  have HB6 := Aside0.mk hB6
  have HS6 := Aside0.mk hs6
  have hA6 := Kd.R_below HRa5.out hB6
  have hR6 := Kd.R_below HRb5.out hB6
  have HA6 := Aside0.mk hA6
  have HR6 := Aside0.mk hR6
  clear hL6 hB6 hs6 hA6 hR6 hW6
  refine (Tokens.calls w5.heap.size W6 w5.heap.size 0 none 0 0 [] A l.length ca (by rw [HS6.out]; omega) (Nat.le_refl _) (by omega) (by omega) HL6.out (own_nil _ _ _ _)).mono ?_
  rintro e6 w7 ⟨rfl, A7, c7, hL7, hO7, hB7, hF7⟩
  have HL7 := Aside0.mk hL7
  have HO7 := Aside0.mk hO7
  have HB7 := Aside0.mk hB7
  clear hL7 hO7 hB7 hF7
  go_wp2_with fail
  refine (Tokens.calls w5.heap.size w7 w5.heap.size (0 + 1) A7 (0 + 1) c7 _ B l.length cb (Nat.le_trans HB6.out.size (by have := HB7.out.size; rw [HS6.out] at this ⊢; omega)) (Nat.le_refl _) (by omega) (by omega) HL7.out HO7.out).mono ?_
  rintro e7 w8 ⟨rfl, A8, c8, hL8, hO8, hB8, hF8⟩
  have HL8 := Aside0.mk hL8
  have HO8 := Aside0.mk hO8
  have HB8 := Aside0.mk hB8
  clear hL8 hO8 hB8 hF8
  have HB := Aside0.mk (show Below w5.heap.size w5 w8 from (HB6.out.trans HB7.out).trans HB8.out)
  obtain ⟨xa, hxa⟩ := Kd.R_own (Kd.R_below HRa5.out HB.out)
  obtain ⟨xb, hxb⟩ := Kd.R_own (Kd.R_lower (Kd.R_below HRb5.out HB.out) HB1.out.size)
  have hle : w.heap.size ≤ w5.heap.size := HB5.out.size
  obtain ⟨tb, htb, hA8, hrow⟩ : ∃ tb, w5.heap.size ≤ tb ∧ A8 = some ⟨tb, 0, none⟩ ∧ ∃ cur, w8.heap[tb]? = some (.cells cur 63 (0, 0)) ∧ cur.toList.take 6 = [.slice A l.length ca, .slice none 0 0, .int .i64 1, .slice B l.length cb, .slice none 0 0, .int .i64 2] := by
    obtain ⟨_, h2⟩ := HO8.out
    rcases h2 with ⟨e1, _⟩ | ⟨g, cap, cur, e1, hb, hh, _, _, _, ht⟩
    · cases e1
    · injection e1 with e1 e2 e3
      exact ⟨g, hb, e1, cur, hh, ht⟩
  subst hA8
  have HT := Aside0.mk (show Two w8 w5.heap.size tb (0 + 1 + 1) c8 (.slice A l.length ca) (.slice none 0 0) (.slice B l.length cb) (.slice none 0 0) from ⟨HL8.out, hrow⟩)
  have HXA := Aside0.mk hxa
  have HXB := Aside0.mk hxb
  clear hrow hxa hxb
  go_wp2_with fail
  refine (Apart.calls w.heap.size w8 w5.heap.size tb (0 + 1 + 1) c8 A l.length ca B l.length cb xa xb hl hl (Nat.le_trans hle HB.out.size) (Nat.le_trans hle htb) HT.out HXA.out HXB.out HD.out).mono ?_
  rintro e9 w9 ⟨rfl, hB9⟩
  have hfin : Below w.heap.size w w9 := (HB5.out.trans (HB.out.mono hle)).trans hB9
  have HFIN := Aside0.mk hfin
  clear hfin hB9
  go_wp2
  go_ret
  exact ⟨rfl, HFIN.out⟩
end Go.Proofs.YtgebfcdpbeaknaaGreatDoor.Bk
end

/-! #### Tok -/
section
set_option linter.unusedVariables false
set_option linter.unusedSimpArgs false
namespace Tk
abbrev L := List UInt8
def isLetter (c : UInt8) : Bool := (97 ≤ c && c ≤ 122) || (65 ≤ c && c ≤ 90)
def isDigit (c : UInt8) : Bool := 48 ≤ c && c ≤ 57
def isWordc (c : UInt8) : Bool := isLetter c || isDigit c || c == 95
def isBlank (c : UInt8) : Bool := c == 32 || c == 9 || c == 10 || c == 13
def runLen (p : UInt8 → Bool) : L → Nat
  | [] => 0
  | c :: r => if p c then runLen p r + 1 else 0
def wordLen : L → Nat
  | [] => 0
  | c :: r => if isLetter c then runLen isWordc r + 1 else 0
def tailLen : L → Nat   -- a point, and digits
  | 46 :: r => if 0 < runLen isDigit r then runLen isDigit r + 1 else 0
  | _ => 0
def numLen (r : L) : Nat := if 0 < runLen isDigit r then runLen isDigit r + tailLen (r.drop (runLen isDigit r)) else 0
def signs : L := [43, 45, 42, 47, 44, 58, 59, 61, 40, 41, 91, 93]
def two : L → Bool
  | c :: d :: _ => (c == 60 || c == 62) && d == 61
  | _ => false
def signLen (r : L) : Nat := if two r then 2 else match r with | [] => 0 | c :: _ => if signs.contains c then 1 else 0
def pick (r : L) : Nat × Nat := if 0 < wordLen r then (1, wordLen r) else if 0 < numLen r then (2, numLen r) else if 0 < signLen r then (3, signLen r) else (0, 0)
structure Tok where
  kind : Nat
  text : L
  pos : Nat
deriving DecidableEq
def cons' (t : Tok) : Except Nat (List Tok) → Except Nat (List Tok)
  | .ok l => .ok (t :: l)
  | .error a => .error a
def notNl (c : UInt8) : Bool := c != 10
def lexN : Nat → Nat → L → Except Nat (List Tok)
  | 0, _, _ => .ok []
  | _ + 1, _, [] => .ok []
  | k + 1, p, c :: r =>
    if isBlank c then lexN k (p + 1) r
    else if c = 35 then lexN k (p + (runLen notNl r + 1)) (r.drop (runLen notNl r))
    else if (pick (c :: r)).2 = 0 then .error p
    else cons' ⟨(pick (c :: r)).1, (c :: r).take (pick (c :: r)).2, p⟩ (lexN k (p + (pick (c :: r)).2) ((c :: r).drop (pick (c :: r)).2))
def lex (p : Nat) (r : L) : Except Nat (List Tok) := lexN (r.length + 1) p r

theorem runLen_le (p : UInt8 → Bool) (r : L) : runLen p r ≤ r.length := by
  induction r with
  | nil => exact Nat.le_refl _
  | cons c r ih => simp only [runLen, List.length_cons]; split <;> omega
theorem tailLen_le (r : L) : tailLen r ≤ r.length := by
  unfold tailLen
  split
  · rename_i r; have := runLen_le isDigit r; simp only [List.length_cons]; split <;> omega
  · omega
theorem numLen_le (r : L) : numLen r ≤ r.length := by
  unfold numLen
  split
  · have := runLen_le isDigit r; have h := tailLen_le (r.drop (runLen isDigit r)); simp only [List.length_drop] at h; omega
  · omega
theorem wordLen_le (r : L) : wordLen r ≤ r.length := by
  cases r with
  | nil => exact Nat.le_refl _
  | cons c r => have := runLen_le isWordc r; simp only [wordLen, List.length_cons]; split <;> omega
theorem two_len {r : L} (h : two r = true) : 2 ≤ r.length := by
  match r, h with
  | _ :: _ :: r, _ => simp
theorem signLen_le (r : L) : signLen r ≤ r.length := by
  unfold signLen
  split
  · rename_i h; exact two_len h
  · split
    · exact Nat.le_refl _
    · simp only [List.length_cons]; split <;> omega
theorem pick_le (r : L) : (pick r).2 ≤ r.length := by
  have h1 := wordLen_le r; have h2 := numLen_le r; have h3 := signLen_le r
  unfold pick
  repeat' split
  all_goals simp; try omega
theorem pick_pos {r : L} (h : (pick r).2 ≠ 0) : 0 < (pick r).1 ∧ (pick r).1 ≤ 3 := by
  unfold pick at h ⊢
  repeat' split
  all_goals simp_all

/-! ### the number of rounds doesn't matter -/
theorem lexN_more (k : Nat) : ∀ (j p : Nat) (r : L), r.length < k → r.length < j → lexN k p r = lexN j p r := by
  induction k with
  | zero => intro j p r h; omega
  | succ k ih =>
    intro j p r h hj
    cases j with
    | zero => omega
    | succ j =>
      cases r with
      | nil => rfl
      | cons c r =>
        simp only [List.length_cons] at h hj
        have hl := runLen_le notNl r
        have hp := pick_le (c :: r)
        simp only [lexN]
        split
        · exact ih j _ _ (by omega) (by omega)
        · split
          · exact ih j _ _ (by simp; omega) (by simp; omega)
          · split
            · rfl
            · rw [ih j _ _ (by simp; omega) (by simp; omega)]
theorem lex_nil (p : Nat) : lex p [] = .ok [] := rfl
theorem lex_blank {p : Nat} {c : UInt8} {r : L} (h : isBlank c = true) : lex p (c :: r) = lex (p + 1) r := by
  simp only [lex, List.length_cons, lexN, h, if_true]
theorem lex_hash {p : Nat} {r : L} : lex p (35 :: r) = lex (p + (runLen notNl r + 1)) (r.drop (runLen notNl r)) := by
  simp only [lex, List.length_cons, lexN]
  rw [if_neg (by decide), if_pos trivial]
  exact lexN_more _ _ _ _ (by simp; omega) (by simp)
theorem lex_bad {p : Nat} {c : UInt8} {r : L} (h : isBlank c = false) (h2 : c ≠ 35) (h3 : (pick (c :: r)).2 = 0) : lex p (c :: r) = .error p := by
  simp only [lex, List.length_cons, lexN, h, if_neg h2, if_pos h3]
  rfl
theorem lex_tok {p : Nat} {c : UInt8} {r : L} (h : isBlank c = false) (h2 : c ≠ 35) (h3 : (pick (c :: r)).2 ≠ 0) :
    lex p (c :: r) = cons' ⟨(pick (c :: r)).1, (c :: r).take (pick (c :: r)).2, p⟩ (lex (p + (pick (c :: r)).2) ((c :: r).drop (pick (c :: r)).2)) := by
  have hd : ((c :: r).drop (pick (c :: r)).2).length = r.length + 1 - (pick (c :: r)).2 := by simp
  simp only [lex, List.length_cons, lexN, h, if_neg h2, if_neg h3]
  have he := lexN_more (r.length + 1) (((c :: r).drop (pick (c :: r)).2).length + 1) (p + (pick (c :: r)).2) ((c :: r).drop (pick (c :: r)).2) (by omega) (by omega)
  rw [he]
  simp only [Bool.false_eq_true, if_false]
/-- Induction over a text as it is read. -/
theorem lex_ind {P : Nat → L → Prop} (h0 : ∀ p, P p []) (h1 : ∀ p c r, isBlank c = true → P (p + 1) r → P p (c :: r))
    (h2 : ∀ p r, P (p + (runLen notNl r + 1)) (r.drop (runLen notNl r)) → P p (35 :: r))
    (h3 : ∀ p c r, isBlank c = false → c ≠ 35 → (pick (c :: r)).2 = 0 → P p (c :: r))
    (h4 : ∀ p c r, isBlank c = false → c ≠ 35 → (pick (c :: r)).2 ≠ 0 → P (p + (pick (c :: r)).2) ((c :: r).drop (pick (c :: r)).2) → P p (c :: r)) : ∀ p r, P p r := by
  have main : ∀ n p (r : L), r.length ≤ n → P p r := by
    intro n
    induction n with
    | zero => intro p r h; obtain rfl : r = [] := List.eq_nil_of_length_eq_zero (by omega); exact h0 p
    | succ n ih =>
      intro p r h
      cases r with
      | nil => exact h0 p
      | cons c r =>
        simp only [List.length_cons] at h
        have hp := pick_le (c :: r)
        by_cases hb : isBlank c = true
        · exact h1 p c r hb (ih _ _ (by omega))
        · replace hb : isBlank c = false := by simpa using hb
          by_cases hc : c = 35
          · subst hc; exact h2 p r (ih _ _ (by simp; omega))
          · by_cases h0 : (pick (c :: r)).2 = 0
            · exact h3 p c r hb hc h0
            · exact h4 p c r hb hc h0 (ih _ _ (by simp only [List.length_drop, List.length_cons] at *; omega))
  exact fun p r => main r.length p r (Nat.le_refl _)

/-! ### what stands behind a token -/
theorem runLen_app (p : UInt8 → Bool) (s : L) (c : UInt8) (t : L) (h : p c = false) : runLen p (s ++ c :: t) = runLen p s := by
  induction s with
  | nil => simp [runLen, h]
  | cons a s ih => simp only [List.cons_append, runLen, ih]
theorem runLen_take (p : UInt8 → Bool) (s : L) (m : Nat) : runLen p (s.take m) = min m (runLen p s) := by
  induction s generalizing m with
  | nil => simp [runLen]
  | cons a s ih =>
    cases m with
    | zero => simp [runLen]
    | succ m => simp only [List.take_succ_cons, runLen, ih]; split <;> omega
theorem runLen_all {p : UInt8 → Bool} {r : L} (h : ∀ c ∈ r, p c = true) : runLen p r = r.length := by
  induction r with
  | nil => rfl
  | cons a s ih => simp only [runLen, h a (by simp), if_true, List.length_cons]; rw [ih (fun c hc => h c (by simp [hc]))]
theorem runLen_stop {p : UInt8 → Bool} {r : L} {c : UInt8} {t : L} (h : ∀ c ∈ r, p c = true) (hc : p c = false) : runLen p (r ++ c :: t) = r.length := by rw [runLen_app p r c t hc, runLen_all h]
/-- a byte that goes on with no token -/
def stops (c : UInt8) : Prop := isWordc c = false ∧ c ≠ 46 ∧ c ≠ 61
theorem stops_digit {c : UInt8} (h : stops c) : isDigit c = false := by
  have := h.1
  unfold isWordc at this
  simp only [Bool.or_eq_false_iff] at this
  exact this.1.2
theorem tailLen_app (s : L) (c : UInt8) (t : L) (h : stops c) : tailLen (s ++ c :: t) = tailLen s := by
  cases s with
  | nil =>
    simp only [List.nil_append]
    unfold tailLen
    split
    · rename_i he; injection he with he _; exact absurd he h.2.1
    · rfl
  | cons a s =>
    simp only [List.cons_append]
    by_cases ha : a = 46
    · subst ha
      simp only [tailLen, runLen_app isDigit s c t (stops_digit h)]
    · unfold tailLen
      split
      · rename_i he; injection he with he _; exact absurd he ha
      · split
        · rename_i he; injection he with he _; exact absurd he ha
        · rfl
theorem numLen_app (s : L) (c : UInt8) (t : L) (h : stops c) : numLen (s ++ c :: t) = numLen s := by
  have hr := runLen_le isDigit s
  simp only [numLen, runLen_app isDigit s c t (stops_digit h)]
  rw [List.drop_append_of_le_length hr, tailLen_app _ c t h]
theorem wordLen_app (a : UInt8) (s : L) (c : UInt8) (t : L) (h : stops c) : wordLen (a :: s ++ c :: t) = wordLen (a :: s) := by
  simp only [List.cons_append, wordLen, runLen_app isWordc s c t h.1]
theorem two_app (a : UInt8) (s : L) (c : UInt8) (t : L) (h : stops c) : two (a :: s ++ c :: t) = two (a :: s) := by
  cases s with
  | nil => simp [two, h.2.2]
  | cons b s => rfl
theorem pick_app (a : UInt8) (s : L) (c : UInt8) (t : L) (h : stops c) : pick (a :: s ++ c :: t) = pick (a :: s) := by
  have h1 := wordLen_app a s c t h
  have h2 := numLen_app (a :: s) c t h
  have h3 : signLen (a :: s ++ c :: t) = signLen (a :: s) := by
    simp only [signLen, two_app a s c t h]
    rfl
  simp only [pick, h1, h2, h3]
theorem stops_blank {c : UInt8} (h : isBlank c = true) : stops c := by
  simp only [isBlank, Bool.or_eq_true, beq_iff_eq] at h
  rcases h with ((h | h) | h) | h <;> subst h <;> exact ⟨by decide, by decide, by decide⟩
/-! ### a text that is cut behind its first token -/
theorem tailLen_take (r : L) (m : Nat) (h : tailLen r ≤ m) : tailLen (r.take m) = tailLen r := by
  cases r with
  | nil => simp
  | cons a s =>
    cases m with
    | zero => simp at h ⊢; rw [h]; rfl
    | succ m =>
      simp only [List.take_succ_cons]
      by_cases ha : a = 46
      · subst ha
        simp only [tailLen, runLen_take] at h ⊢
        by_cases hr : 0 < runLen isDigit s
        · rw [if_pos hr] at h ⊢
          rw [if_pos (by omega)]; omega
        · rw [if_neg hr, if_neg (by omega)]
      · unfold tailLen
        split
        · rename_i he; injection he with he _; exact absurd he ha
        · split
          · rename_i he; injection he with he _; exact absurd he ha
          · rfl
theorem numLen_take (r : L) (m : Nat) (h : numLen r ≤ m) : numLen (r.take m) = numLen r := by
  unfold numLen at h ⊢
  rw [runLen_take]
  by_cases h0 : 0 < runLen isDigit r
  · rw [if_pos h0] at h ⊢
    have hm : min m (runLen isDigit r) = runLen isDigit r := by omega
    rw [hm, if_pos h0, List.drop_take, tailLen_take _ _ (by omega)]
  · rw [if_neg h0, if_neg (by omega)]
theorem wordLen_take (r : L) (m : Nat) (h : wordLen r ≤ m) (hm : 0 < m) : wordLen (r.take m) = wordLen r := by
  cases r with
  | nil => simp
  | cons a s =>
    cases m with
    | zero => omega
    | succ m =>
      simp only [List.take_succ_cons, wordLen, runLen_take] at h ⊢
      split at h <;> simp_all <;> omega
theorem pick_take (r : L) (m : Nat) (h : (pick r).2 ≤ m) (h0 : (pick r).2 ≠ 0) : pick (r.take m) = pick r := by
  have hm : 0 < m := by omega
  unfold pick at h h0 ⊢
  by_cases hw : 0 < wordLen r
  · rw [if_pos hw] at h
    rw [wordLen_take r m h hm, if_pos hw, if_pos hw]
  · have hw0 : wordLen r = 0 := by omega
    rw [if_neg hw] at h h0 ⊢
    rw [wordLen_take r m (by omega) hm, if_neg hw]
    by_cases hn : 0 < numLen r
    · rw [if_pos hn] at h ⊢
      rw [numLen_take r m h, if_pos hn]
    · rw [if_neg hn] at h h0 ⊢
      rw [numLen_take r m (by omega), if_neg hn]
      by_cases hs : 0 < signLen r
      · rw [if_pos hs] at h h0 ⊢
        have he : signLen (r.take m) = signLen r := by
          unfold signLen at h ⊢
          by_cases h2 : two r = true
          · rw [if_pos h2] at h ⊢
            have : two (r.take m) = true := by
              match r, m, h2, h with
              | c :: d :: r, m + 2, h2, _ => simpa [two] using h2
            rw [if_pos this]
          · rw [if_neg h2] at h ⊢
            have : ¬ two (r.take m) = true := by
              match r, m, h2 with
              | [], _, _ => simp [two]
              | _, 0, _ => omega
              | [c], m + 1, _ => simp [two]
              | c :: d :: r, 1, _ => simp [two]
              | c :: d :: r, m + 2, h2 => simpa [two] using h2
            rw [if_neg this]
            match r, m, hm with
            | [], _, _ => simp
            | c :: r, m + 1, _ => rfl
        rw [he, if_pos hs]
      · rw [if_neg hs] at h0
        exact absurd rfl h0

/-! ### places: what stands between the tokens -/
def gap : Bool → L → Option Bool
  | b, [] => some b
  | b, c :: r => if c = 10 then gap false r else if b then gap true r else if c = 35 then gap true r else if c = 32 ∨ c = 9 ∨ c = 13 then gap false r else none
inductive Good : Nat → L → List Tok → Prop
  | last (p : Nat) (r : L) (h : (gap false r).isSome = true) : Good p r []
  | more (p : Nat) (r : L) (n : Nat) (t : Tok) (l : List Tok) (h1 : t.pos = p + n) (h2 : n + t.text.length ≤ r.length) (h3 : (gap false (r.take n)).isSome = true) (h4 : t.text ≠ []) (h5 : (r.drop n).take t.text.length = t.text) (h6 : 1 ≤ t.kind ∧ t.kind ≤ 3) (h7 : Good (p + n + t.text.length) (r.drop (n + t.text.length)) l) : Good p r (t :: l)
theorem gap_true_app (x y : L) (h : ∀ c ∈ x, notNl c = true) : gap true (x ++ y) = gap true y := by
  induction x with
  | nil => rfl
  | cons c x ih =>
    have hc : c ≠ 10 := by have := h c (by simp); simpa [notNl] using this
    simp only [List.cons_append, gap, if_neg hc, if_true]
    exact ih (fun c hc => h c (by simp [hc]))
theorem runLen_prefix (p : UInt8 → Bool) (r : L) : ∀ c ∈ r.take (runLen p r), p c = true := by
  induction r with
  | nil => simp
  | cons a r ih =>
    intro c hc
    simp only [runLen] at hc
    split at hc
    · rename_i h
      simp only [List.take_succ_cons, List.mem_cons] at hc
      rcases hc with rfl | hc
      · exact h
      · exact ih c hc
    · simp at hc
theorem runLen_next (p : UInt8 → Bool) (r : L) : r.drop (runLen p r) = [] ∨ ∃ c t, r.drop (runLen p r) = c :: t ∧ p c = false := by
  induction r with
  | nil => exact .inl rfl
  | cons a r ih =>
    simp only [runLen]
    split
    · rw [List.drop_succ_cons]; exact ih
    · rename_i h; exact .inr ⟨a, r, rfl, by simpa using h⟩
theorem gap_up {y : L} (h : (gap false y).isSome = true) (hy : y = [] ∨ ∃ t, y = 10 :: t) : (gap true y).isSome = true := by
  rcases hy with rfl | ⟨t, rfl⟩
  · rfl
  · simpa [gap] using h
theorem gap_line (r : L) (n : Nat) (h : (gap false ((r.drop (runLen notNl r)).take n)).isSome = true) : (gap false ((35 :: r).take (runLen notNl r + 1 + n))).isSome = true := by
  have e : (35 :: r).take (runLen notNl r + 1 + n) = 35 :: (r.take (runLen notNl r) ++ (r.drop (runLen notNl r)).take n) := by
    rw [show runLen notNl r + 1 + n = (runLen notNl r + n) + 1 by omega, List.take_succ_cons, List.take_add]
  rw [e]
  simp only [gap]
  rw [if_neg (by decide), if_neg (by decide), if_pos trivial, gap_true_app _ _ (runLen_prefix notNl r)]
  refine gap_up h ?_
  rcases runLen_next notNl r with h1 | ⟨c, t, h1, h2⟩
  · left; rw [h1]; simp
  · have hc : c = 10 := by simpa [notNl] using h2
    subst hc
    rw [h1]
    cases n with
    | zero => exact .inl rfl
    | succ n => exact .inr ⟨t.take n, rfl⟩
theorem gap_blank {c : UInt8} (r : L) (h : isBlank c = true) : gap false (c :: r) = gap false r := by
  simp only [isBlank, Bool.or_eq_true, beq_iff_eq] at h
  simp only [gap]
  by_cases h1 : c = 10
  · rw [if_pos h1]
  · have h2 : c ≠ 35 := by rintro rfl; revert h; decide
    rw [if_neg h1, if_neg (by decide), if_neg h2, if_pos (by rcases h with ((h | h) | h) | h <;> simp_all)]
theorem lex_good : ∀ p r, ∀ l, lex p r = .ok l → Good p r l := by
  refine lex_ind (P := fun p r => ∀ l, lex p r = .ok l → Good p r l) ?_ ?_ ?_ ?_ ?_
  · intro p l h
    rw [lex_nil] at h
    injection h with h
    subst h
    exact .last p [] rfl
  · intro p c r hc ih l h
    rw [lex_blank hc] at h
    rcases ih l h with ⟨_, _, h1⟩ | ⟨_, _, n, t, l, h1, h2, h3, h4, h5, h6, h7⟩
    · exact .last _ _ (by rw [gap_blank r hc]; exact h1)
    · refine .more p (c :: r) (n + 1) t l (by omega) (by simp only [List.length_cons]; omega) (by rw [List.take_succ_cons, gap_blank _ hc]; exact h3) h4 (by rw [List.drop_succ_cons]; exact h5) h6 ?_
      rw [show p + (n + 1) + t.text.length = p + 1 + n + t.text.length by omega, show n + 1 + t.text.length = (n + t.text.length) + 1 by omega, List.drop_succ_cons]
      exact h7
  · intro p r ih l h
    rw [lex_hash] at h
    have hl := runLen_le notNl r
    rcases ih l h with ⟨_, _, h1⟩ | ⟨_, _, n, t, l, h1, h2, h3, h4, h5, h6, h7⟩
    · refine .last _ _ ?_
      have := gap_line r r.length (by rw [List.take_of_length_le (by simp)]; exact h1)
      rwa [List.take_of_length_le (by simp; omega)] at this
    · simp only [List.length_drop] at h2
      refine .more p (35 :: r) (runLen notNl r + 1 + n) t l (by omega) (by simp only [List.length_cons]; omega) (gap_line r n h3) h4 ?_ h6 ?_
      · rw [show runLen notNl r + 1 + n = (runLen notNl r + n) + 1 by omega, List.drop_succ_cons, ← List.drop_drop]; exact h5
      · rw [show runLen notNl r + 1 + n + t.text.length = (runLen notNl r + (n + t.text.length)) + 1 by omega, List.drop_succ_cons, ← List.drop_drop, show p + (runLen notNl r + 1 + n) + t.text.length = p + (runLen notNl r + 1) + n + t.text.length by omega]
        exact h7
  · intro p c r hb hc h0 l h
    rw [lex_bad hb hc h0] at h
    cases h
  · intro p c r hb hc h0 ih l h
    rw [lex_tok hb hc h0] at h
    have hp := pick_le (c :: r)
    match hx : lex (p + (pick (c :: r)).2) ((c :: r).drop (pick (c :: r)).2) with
    | .error a => rw [hx] at h; cases h
    | .ok m =>
      rw [hx] at h
      injection h with h
      subst h
      have hl : ((c :: r).take (pick (c :: r)).2).length = (pick (c :: r)).2 := by rw [List.length_take]; omega
      refine .more p (c :: r) 0 _ m rfl (by rw [hl]; omega) rfl ?_ ?_ (pick_pos h0) ?_
      · intro he; rw [show (c :: r).take (pick (c :: r)).2 = [] from he] at hl; simp at hl; omega
      · rw [List.drop_zero, hl]
      · rw [hl, Nat.zero_add, Nat.add_zero]; exact ih m hx
theorem lex_error : ∀ p r, ∀ a, lex p r = .error a → p ≤ a ∧ a < p + r.length := by
  refine lex_ind (P := fun p r => ∀ a, lex p r = .error a → p ≤ a ∧ a < p + r.length) ?_ ?_ ?_ ?_ ?_
  · intro p a h; cases h
  · intro p c r hc ih a h
    rw [lex_blank hc] at h
    have := ih a h
    simp only [List.length_cons]; omega
  · intro p r ih a h
    rw [lex_hash] at h
    have := ih a h
    have hl := runLen_le notNl r
    simp only [List.length_cons, List.length_drop] at *; omega
  · intro p c r hb hc h0 a h
    rw [lex_bad hb hc h0] at h
    injection h with h
    simp only [List.length_cons]; omega
  · intro p c r hb hc h0 ih a h
    rw [lex_tok hb hc h0] at h
    have hp := pick_le (c :: r)
    match hx : lex (p + (pick (c :: r)).2) ((c :: r).drop (pick (c :: r)).2) with
    | .ok m => rw [hx] at h; cases h
    | .error b =>
      rw [hx] at h
      injection h with h
      subst h
      have := ih b hx
      simp only [List.length_drop] at this; omega

/-! ### tokens with something between -/
/-- a token's text is that token, alone -/
def Solid (t : Tok) : Prop := ∃ c r, t.text = c :: r ∧ isBlank c = false ∧ c ≠ 35 ∧ pick (c :: r) = (t.kind, (c :: r).length)
theorem lex_solid : ∀ p r, ∀ l, lex p r = .ok l → ∀ t ∈ l, Solid t := by
  refine lex_ind (P := fun p r => ∀ l, lex p r = .ok l → ∀ t ∈ l, Solid t) ?_ ?_ ?_ ?_ ?_
  · intro p l h
    rw [lex_nil] at h
    injection h with h
    subst h
    simp
  · intro p c r hc ih l h
    rw [lex_blank hc] at h
    exact ih l h
  · intro p r ih l h
    rw [lex_hash] at h
    exact ih l h
  · intro p c r hb hc h0 l h
    rw [lex_bad hb hc h0] at h
    cases h
  · intro p c r hb hc h0 ih l h
    rw [lex_tok hb hc h0] at h
    have hp := pick_le (c :: r)
    match hx : lex (p + (pick (c :: r)).2) ((c :: r).drop (pick (c :: r)).2) with
    | .error a => rw [hx] at h; cases h
    | .ok m =>
      rw [hx] at h
      injection h with h
      subst h
      intro t ht
      rcases List.mem_cons.1 ht with rfl | ht
      · obtain ⟨n, hn⟩ : ∃ n, (pick (c :: r)).2 = n + 1 := ⟨(pick (c :: r)).2 - 1, by omega⟩
        have he := pick_take (c :: r) (pick (c :: r)).2 (Nat.le_refl _) h0
        refine ⟨c, r.take n, by rw [hn]; rfl, hb, hc, ?_⟩
        have hl : ((c :: r).take (pick (c :: r)).2).length = (pick (c :: r)).2 := by rw [List.length_take]; omega
        rw [← List.take_succ_cons, ← hn, he, hl]
      · exact ih m hx t ht
def spread (b : L) : Nat → List Tok → List Tok
  | _, [] => []
  | q, t :: l => ⟨t.kind, t.text, q⟩ :: spread b (q + t.text.length + b.length) l
def cat (b : L) : List Tok → L
  | [] => []
  | t :: l => t.text ++ b ++ cat b l
theorem lex_solid_then {t : Tok} (ht : Solid t) (q : Nat) (c0 : UInt8) (x : L) (h : stops c0) : lex q (t.text ++ c0 :: x) = cons' ⟨t.kind, t.text, q⟩ (lex (q + t.text.length) (c0 :: x)) := by
  obtain ⟨c, r, h1, h2, h3, h4⟩ := ht
  have hp := pick_app c r c0 x h
  rw [h4] at hp
  rw [h1, List.cons_append, lex_tok h2 h3 (by rw [← List.cons_append, hp]; simp), ← List.cons_append, hp]
  simp only [List.take_left, List.drop_left]
theorem lex_solid_end {t : Tok} (ht : Solid t) (q : Nat) : lex q t.text = .ok [⟨t.kind, t.text, q⟩] := by
  obtain ⟨c, r, h1, h2, h3, h4⟩ := ht
  rw [h1, lex_tok h2 h3 (by rw [h4]; simp), h4]
  simp only [List.take_length, List.drop_length, lex_nil, cons']
theorem lex_spread (b : L) (c0 : UInt8) (b' : L) (hb : b = c0 :: b') (hc : stops c0) (hskip : ∀ q x, lex q (b ++ x) = lex (q + b.length) x) (l : List Tok) : ∀ q, (∀ t ∈ l, Solid t) → lex q (cat b l) = .ok (spread b q l) := by
  induction l with
  | nil => intro q _; rfl
  | cons t l ih =>
    intro q h
    have h1 := lex_solid_then (h t (by simp)) q c0 (b' ++ cat b l) hc
    rw [← List.cons_append, ← hb, hskip, ih _ (fun t ht => h t (by simp [ht]))] at h1
    rw [cat, List.append_assoc, h1]
    rfl
theorem skip_blank {c : UInt8} (h : isBlank c = true) (q : Nat) (x : L) : lex q ([c] ++ x) = lex (q + [c].length) x := lex_blank h
theorem skip_line (q : Nat) (x : L) : lex q ([32, 35, 32, 120, 10] ++ x) = lex (q + ([32, 35, 32, 120, 10] : L).length) x := by
  have hr : runLen notNl (32 :: 120 :: 10 :: x) = 2 := by simp [runLen, notNl]
  rw [show ([32, 35, 32, 120, 10] ++ x : L) = 32 :: 35 :: 32 :: 120 :: 10 :: x from rfl, lex_blank (by decide), lex_hash, hr]
  rw [show (32 :: 120 :: 10 :: x : L).drop 2 = 10 :: x from rfl, lex_blank (by decide)]
  rfl
theorem spread_len (b : L) (l : List Tok) : ∀ q, (spread b q l).length = l.length := by
  induction l with
  | nil => intro q; rfl
  | cons t l ih => intro q; simp [spread, ih]
def textLen : List Tok → Nat
  | [] => 0
  | t :: l => t.text.length + textLen l
theorem cat_len (b : L) (l : List Tok) : (cat b l).length = textLen l + l.length * b.length := by
  induction l with
  | nil => simp [cat, textLen]
  | cons t l ih => simp only [cat, textLen, List.length_append, List.length_cons, ih, Nat.add_mul]; omega
theorem good_text : ∀ (q : Nat) (r : L) (l : List Tok), Good q r l → textLen l ≤ r.length ∧ l.length ≤ r.length := by
  intro q r l h
  induction h with
  | last => simp [textLen]
  | more p r n t l h1 h2 h3 h4 h5 h6 _ ih =>
    have := List.length_pos_iff.2 h4
    simp only [List.length_cons, List.length_drop, textLen] at *
    omega

/-! ### two texts with a line's end between -/
def joinR : Except Nat (List Tok) → Except Nat (List Tok) → Except Nat (List Tok)
  | .error a, _ => .error a
  | .ok _, .error a => .error a
  | .ok l, .ok m => .ok (l ++ m)
theorem joinR_cons (t : Tok) (x y : Except Nat (List Tok)) : joinR (cons' t x) y = cons' t (joinR x y) := by
  cases x <;> cases y <;> rfl
theorem joinR_nil (y : Except Nat (List Tok)) : joinR (.ok []) y = y := by cases y <;> rfl
theorem lex_join (t : L) : ∀ p s, lex p (s ++ 10 :: t) = joinR (lex p s) (lex (p + s.length + 1) t) := by
  refine lex_ind (P := fun p s => lex p (s ++ 10 :: t) = joinR (lex p s) (lex (p + s.length + 1) t)) ?_ ?_ ?_ ?_ ?_
  · intro p
    rw [List.nil_append, lex_blank (by decide), lex_nil, joinR_nil]
    rfl
  · intro p c r hc ih
    rw [List.cons_append, lex_blank hc, lex_blank hc, ih, List.length_cons]
    congr 2; omega
  · intro p r ih
    have hl := runLen_le notNl r
    rw [List.cons_append, lex_hash, lex_hash, runLen_app notNl r 10 t (by decide), List.drop_append_of_le_length hl, ih, List.length_drop, List.length_cons]
    congr 2; omega
  · intro p c r hb hc h0
    have hp := pick_app c r 10 t (stops_blank (by decide))
    rw [List.cons_append, lex_bad hb hc (by rw [← List.cons_append, hp]; exact h0), lex_bad hb hc h0]
    rfl
  · intro p c r hb hc h0 ih
    have hp := pick_app c r 10 t (stops_blank (by decide))
    have hle := pick_le (c :: r)
    rw [List.cons_append, lex_tok hb hc (by rw [← List.cons_append, hp]; exact h0), lex_tok hb hc h0, joinR_cons, ← List.cons_append, hp, List.take_append_of_le_length hle, List.drop_append_of_le_length hle, ih, List.length_drop]
    congr 3; omega
def shift (d : Nat) : Except Nat (List Tok) → Except Nat (List Tok)
  | .error a => .error (d + a)
  | .ok l => .ok (l.map fun t => ⟨t.kind, t.text, d + t.pos⟩)
theorem shift_cons (d : Nat) (t : Tok) (x : Except Nat (List Tok)) : shift d (cons' t x) = cons' ⟨t.kind, t.text, d + t.pos⟩ (shift d x) := by cases x <;> rfl
theorem lex_shift (d : Nat) : ∀ p s, lex (d + p) s = shift d (lex p s) := by
  refine lex_ind (P := fun p s => lex (d + p) s = shift d (lex p s)) ?_ ?_ ?_ ?_ ?_
  · intro p; rfl
  · intro p c r hc ih
    rw [lex_blank hc, lex_blank hc, ← ih]; rfl
  · intro p r ih
    rw [lex_hash, lex_hash, ← ih, Nat.add_assoc]
  · intro p c r hb hc h0
    rw [lex_bad hb hc h0, lex_bad hb hc h0]; rfl
  · intro p c r hb hc h0 ih
    rw [lex_tok hb hc h0, lex_tok hb hc h0, shift_cons, ← ih, Nat.add_assoc]
/-! ### a text that ends where a token begins -/
theorem lex_ahead : ∀ p r, ∀ l, lex p r = .ok l → ∀ (k : Nat) (t : Tok), l[k]? = some t → p ≤ t.pos ∧ t.pos ≤ p + r.length ∧ lex p (r.take (t.pos - p)) = .ok (l.take k) := by
  refine lex_ind (P := fun p r => ∀ l, lex p r = .ok l → ∀ (k : Nat) (t : Tok), l[k]? = some t → p ≤ t.pos ∧ t.pos ≤ p + r.length ∧ lex p (r.take (t.pos - p)) = .ok (l.take k)) ?_ ?_ ?_ ?_ ?_
  · intro p l h k t hk
    rw [lex_nil] at h
    injection h with h
    subst h
    simp at hk
  · intro p c r hc ih l h k t hk
    rw [lex_blank hc] at h
    obtain ⟨h1, h2, h3⟩ := ih l h k t hk
    refine ⟨by omega, by simp only [List.length_cons]; omega, ?_⟩
    rw [show t.pos - p = (t.pos - (p + 1)) + 1 by omega, List.take_succ_cons, lex_blank hc, h3]
  · intro p r ih l h k t hk
    rw [lex_hash] at h
    have hl := runLen_le notNl r
    obtain ⟨h1, h2, h3⟩ := ih l h k t hk
    rw [List.length_drop] at h2
    refine ⟨by omega, by simp only [List.length_cons]; omega, ?_⟩
    rw [show t.pos - p = (t.pos - (p + (runLen notNl r + 1)) + runLen notNl r) + 1 by omega, List.take_succ_cons, lex_hash, runLen_take, show min (t.pos - (p + (runLen notNl r + 1)) + runLen notNl r) (runLen notNl r) = runLen notNl r by omega, List.drop_take, show t.pos - (p + (runLen notNl r + 1)) + runLen notNl r - runLen notNl r = t.pos - (p + (runLen notNl r + 1)) by omega, h3]
  · intro p c r hb hc h0 l h
    rw [lex_bad hb hc h0] at h
    cases h
  · intro p c r hb hc h0 ih l h k t hk
    rw [lex_tok hb hc h0] at h
    have hp := pick_le (c :: r)
    match hx : lex (p + (pick (c :: r)).2) ((c :: r).drop (pick (c :: r)).2) with
    | .error a => rw [hx] at h; cases h
    | .ok m =>
      rw [hx] at h
      injection h with h
      subst h
      cases k with
      | zero =>
        simp at hk
        subst hk
        exact ⟨Nat.le_refl _, Nat.le_add_right _ _, by simp [lex_nil]⟩
      | succ k =>
        simp only [List.getElem?_cons_succ] at hk
        obtain ⟨h1, h2, h3⟩ := ih m hx k t hk
        rw [List.length_drop] at h2
        refine ⟨by omega, by omega, ?_⟩
        have hn : (pick (c :: r)).2 ≤ t.pos - p := by omega
        have he := pick_take (c :: r) (t.pos - p) hn h0
        have hs : (c :: r).take (t.pos - p) = c :: r.take (t.pos - p - 1) := by
          rw [show t.pos - p = (t.pos - p - 1) + 1 by omega, List.take_succ_cons]
          rfl
        rw [hs] at he ⊢
        rw [lex_tok hb hc (by rw [he]; exact h0), he, ← hs, List.take_take, show min (pick (c :: r)).2 (t.pos - p) = (pick (c :: r)).2 by omega, List.drop_take, show t.pos - p - (pick (c :: r)).2 = t.pos - (p + (pick (c :: r)).2) by omega, h3]
        rfl
/-! ### digits -/
theorem digit_plain (c : UInt8) (h : isDigit c = true) : isBlank c = false ∧ c ≠ 35 ∧ isLetter c = false := by
  have hc := c.toNat_lt
  simp only [isDigit, Bool.and_eq_true, decide_eq_true_iff, UInt8.le_iff_toNat_le] at h
  have h1 : (48 : UInt8).toNat = 48 := rfl
  have h2 : (57 : UInt8).toNat = 57 := rfl
  refine ⟨?_, ?_, ?_⟩
  · rw [Bool.eq_false_iff]
    intro e
    simp only [isBlank, Bool.or_eq_true, beq_iff_eq] at e
    rcases e with ((e | e) | e) | e <;> subst e <;> revert h <;> decide
  · rintro rfl; revert h; decide
  · rw [Bool.eq_false_iff]
    intro e
    simp only [isLetter, Bool.or_eq_true, Bool.and_eq_true, decide_eq_true_iff, UInt8.le_iff_toNat_le] at e
    have h3 : (97 : UInt8).toNat = 97 := rfl
    have h4 : (65 : UInt8).toNat = 65 := rfl
    omega
def digits (d : L) : Prop := d ≠ [] ∧ ∀ c ∈ d, isDigit c = true
/-- digits, or digits around a point -/
inductive Numeral : L → Prop
  | one (d : L) (h : digits d) : Numeral d
  | two (d e : L) (h : digits d) (h2 : digits e) : Numeral (d ++ 46 :: e)
theorem numeral_pick {s : L} (h : Numeral s) (c : UInt8) (hc : c = 120 ∨ c = 46) : pick (s ++ [c]) = (2, s.length) ∧ ∃ a r, s = a :: r ∧ isBlank a = false ∧ a ≠ 35 := by
  have hcd : isDigit c = false := by rcases hc with rfl | rfl <;> decide
  have ht : tailLen [c] = 0 := by rcases hc with rfl | rfl <;> decide
  have key : ∀ (a : UInt8) (r : L) (n : Nat), isDigit a = true → numLen (a :: r) = n → 0 < n → pick (a :: r) = (2, n) := by
    intro a r n ha hn h0
    unfold pick
    have hw : wordLen (a :: r) = 0 := by simp only [wordLen, (digit_plain a ha).2.2]; rfl
    rw [hw, if_neg (by omega), hn, if_pos h0]
  cases h with
  | one _ h =>
    match s, h with
    | a :: r, h =>
      have ha := h.2 a (by simp)
      have hr : runLen isDigit ((a :: r) ++ [c]) = (a :: r).length := runLen_stop h.2 hcd
      refine ⟨?_, a, r, rfl, (digit_plain a ha).1, (digit_plain a ha).2.1⟩
      refine key a (r ++ [c]) _ ha ?_ (by simp)
      unfold numLen
      rw [← List.cons_append, hr, if_pos (by simp), List.drop_left, ht]
      rfl
    | [], h => exact absurd rfl h.1
  | two d e h h2 =>
    match d, h with
    | a :: r, h =>
      have ha := h.2 a (by simp)
      have hr : runLen isDigit ((a :: r) ++ 46 :: (e ++ [c])) = (a :: r).length := runLen_stop h.2 (by decide)
      have he : runLen isDigit (e ++ [c]) = e.length := runLen_stop h2.2 hcd
      have he0 := List.length_pos_iff.2 h2.1
      refine ⟨?_, a, r ++ 46 :: e, rfl, (digit_plain a ha).1, (digit_plain a ha).2.1⟩
      rw [List.append_assoc, List.cons_append, List.cons_append]
      refine key a (r ++ 46 :: (e ++ [c])) _ ha ?_ (by simp)
      unfold numLen
      rw [← List.cons_append, hr, if_pos (by simp), List.drop_left]
      simp only [tailLen, he]
      rw [if_pos he0]
      simp
      omega
    | [], h => exact absurd rfl h.1
theorem numeral_x {s : L} (h : Numeral s) : lex 0 (s ++ [120]) = .ok [⟨2, s, 0⟩, ⟨1, [120], s.length⟩] := by
  obtain ⟨hp, a, r, rfl, hb, hc⟩ := numeral_pick h 120 (.inl rfl)
  rw [List.cons_append, lex_tok hb hc (by rw [← List.cons_append, hp]; simp), ← List.cons_append, hp]
  simp only [List.take_left, List.drop_left, Nat.zero_add]
  rw [lex_tok (by decide) (by decide) (by decide)]
  rfl
theorem numeral_point {s : L} (h : Numeral s) : lex 0 (s ++ [46]) = .error s.length := by
  obtain ⟨hp, a, r, rfl, hb, hc⟩ := numeral_pick h 46 (.inr rfl)
  rw [List.cons_append, lex_tok hb hc (by rw [← List.cons_append, hp]; simp), ← List.cons_append, hp]
  simp only [List.take_left, List.drop_left, Nat.zero_add]
  rw [lex_bad (by decide) (by decide) (by decide)]
  rfl
end Tk
end

/-! #### TokGo -/
section
set_option linter.unusedVariables false
set_option linter.unusedSimpArgs false
namespace Go.Proofs.YtgebfcdpbeaknaaGreatDoor.Tg
open Go Go.RowKit Go.Proofs.YtgebfcdpbeaknaaGreatDoor.X Go.Proofs.YtgebfcdpbeaknaaGreatDoorW.PrintWords Go.Proofs.YtgebfcdpbeaknaaGreatDoorW.PrintLast Tk

abbrev bl (s : ByteArray) : List UInt8 := s.data.toList
theorem bl_size (s : ByteArray) : (bl s).length = s.size := rfl
theorem bl_extract (s : ByteArray) (a b : Nat) : bl (s.extract a b) = ((bl s).drop a).take (b - a) := by simp [bl]
theorem bl_from (s : ByteArray) (a : Nat) : bl (s.extract a s.size) = (bl s).drop a := by
  rw [bl_extract, List.take_of_length_le (by simp)]
theorem bl_to (s : ByteArray) (b : Nat) : bl (s.extract 0 b) = (bl s).take b := by rw [bl_extract]; simp
theorem bl_app (s t : ByteArray) : bl (s ++ t) = bl s ++ bl t := by simp [bl]
theorem bl_inj {a b : ByteArray} (h : bl a = bl b) : a = b := by
  cases a; cases b; simp [bl] at h; rw [h]
theorem bl_mk (l : List UInt8) : bl ⟨l.toArray⟩ = l := by simp [bl]
theorem mk_bl (s : ByteArray) : (⟨(bl s).toArray⟩ : ByteArray) = s := by simp [bl]
theorem size_extract_from (s : ByteArray) (a : Nat) : (s.extract a s.size).size = s.size - a := by
  rw [← bl_size, bl_from, List.length_drop, bl_size]
theorem bt_bl (s : ByteArray) (i : Nat) (h : i < s.size) : bt s (i : Int) = (((bl s)[i]'(by simpa using h)).toNat : Int) := by
  unfold bt
  rw [dif_pos (by simpa using h)]
  rfl
theorem w64 {x : Int} (h1 : -9223372036854775808 ≤ x) (h2 : x ≤ 9223372036854775807) : wrap64 x = x := by unfold wrap64; omega
theorem u8_all {P : UInt8 → Bool} (h : (List.range 256).all (fun n => P (UInt8.ofNat n)) = true) (c : UInt8) : P c = true := by
  have hc := c.toNat_lt
  have := List.all_eq_true.1 h c.toNat (by simp; omega)
  simpa using this

/-! ### runs -/
def ascii (set : ByteArray) : Prop := ∀ c ∈ bl set, c.toNat < 128
theorem drop_cons' {α : Type} (l : List α) (i : Nat) (h : i < l.length) : l.drop i = l[i] :: l.drop (i + 1) := List.drop_eq_getElem_cons h
theorem mem_any (set : ByteArray) (c : Int) (ha : ascii set) (b : Nat) : ∀ pos acc, set.size ≤ pos + b → tokens_cutLeft.mem set c b pos acc = (acc || ((bl set).drop pos).any (fun d => c == (d.toNat : Int))) := by
  induction b with
  | zero =>
    intro pos acc h
    rw [List.drop_of_length_le (by rw [bl_size]; omega)]
    simp [tokens_cutLeft.mem]
  | succ b ih =>
    intro pos acc h
    unfold tokens_cutLeft.mem
    by_cases hp : pos < set.size
    · have hl : pos < (bl set).length := hp
      have hd := decode_ascii set pos hp (ha _ (List.getElem_mem hl))
      rw [if_pos hp, hd, ih (pos + 1) _ (by omega), drop_cons' (bl set) pos hl, List.any_cons, Bool.or_assoc]
      rfl
    · rw [if_neg hp, List.drop_of_length_le (by rw [bl_size]; omega)]
      simp
def inSet (set : ByteArray) (c : UInt8) : Bool := (bl set).any (fun d => (c.toNat : Int) == (d.toNat : Int))
theorem go_run (s set : ByteArray) (ha : ascii set) (b : Nat) : ∀ pos, s.size ≤ pos + b → bl (tokens_cutLeft.go s set b pos) = ((bl s).drop pos).drop (runLen (inSet set) ((bl s).drop pos)) := by
  induction b with
  | zero =>
    intro pos h
    rw [List.drop_of_length_le (l := bl s) (by rw [bl_size]; omega)]
    rfl
  | succ b ih =>
    intro pos h
    unfold tokens_cutLeft.go
    by_cases hp : pos < s.size
    · have hl : pos < (bl s).length := hp
      rw [if_pos hp, mem_any set _ ha _ _ _ (by omega)]
      simp only [Bool.false_or, List.drop_zero]
      rw [drop_cons' (bl s) pos hl]
      by_cases hc : ((bl s)[pos]).toNat < 128
      · rw [decode_ascii s pos hp hc]
        simp only [runLen]
        change bl (if inSet set (bl s)[pos] = true then _ else _) = _
        by_cases hm : inSet set (bl s)[pos] = true
        · rw [if_pos hm, if_pos hm, ih (pos + 1) (by omega), List.drop_succ_cons]
        · rw [if_neg hm, if_neg hm, bl_from, drop_cons' (bl s) pos hl, List.drop_zero]
      · have hh := (decode_high s pos hp (by have : ((bl s)[pos]).toNat = (s[pos]'hp).toNat := rfl; omega)).1
        have h1 : ((bl set).any fun d => ((Utf8.decode s pos).1 : Int) == (d.toNat : Int)) = false := by
          rw [List.any_eq_false]
          intro d hd
          have := ha d hd
          simp only [beq_iff_eq]; omega
        have h2 : inSet set (bl s)[pos] = false := by
          unfold inSet
          rw [List.any_eq_false]
          intro d hd
          have := ha d hd
          simp only [beq_iff_eq]; omega
        rw [h1, if_neg (by decide), bl_from, drop_cons' (bl s) pos hl]
        simp only [runLen, h2, Bool.false_eq_true, if_false, List.drop_zero]
    · rw [if_neg hp, List.drop_of_length_le (l := bl s) (by rw [bl_size]; omega)]
      rfl
theorem run_is (s set : ByteArray) (ha : ascii set) (hs : s.size ≤ 140737488355328) (p : UInt8 → Bool) (hp : ∀ c, inSet set c = p c) : tokens_run.f s set = some (runLen p (bl s) : Int) := by
  have h := go_run s set ha s.size 0 (by omega)
  obtain rfl : inSet set = p := funext hp
  have hl := runLen_le (inSet set) (bl s)
  have h2 : (tokens_cutLeft.go s set s.size 0).size = s.size - runLen (inSet set) (bl s) := by
    rw [← bl_size, h]; simp
  rw [bl_size] at hl
  simp only [tokens_run.f, tokens_cutLeft.f, Option.bind_some, h2]
  congr 1
  rw [w64] <;> omega
theorem ascii_of {l : List UInt8} (h : l.all (fun c => c.toNat < 128) = true) : ascii ⟨l.toArray⟩ := by
  intro c hc
  rw [bl_mk] at hc
  simpa using List.all_eq_true.1 h c hc
theorem run_digits (s : ByteArray) (hs : s.size ≤ 140737488355328) : tokens_run.f s ⟨#[48, 49, 50, 51, 52, 53, 54, 55, 56, 57]⟩ = some (runLen isDigit (bl s) : Int) :=
  run_is s _ (ascii_of (l := [48, 49, 50, 51, 52, 53, 54, 55, 56, 57]) (by decide)) hs _ (fun c => by simpa using u8_all (P := fun c => inSet ⟨#[48, 49, 50, 51, 52, 53, 54, 55, 56, 57]⟩ c == isDigit c) (by decide +kernel) c)
theorem run_blanks (s : ByteArray) (hs : s.size ≤ 140737488355328) : tokens_run.f s ⟨#[32, 9, 10, 13]⟩ = some (runLen isBlank (bl s) : Int) :=
  run_is s _ (ascii_of (l := [32, 9, 10, 13]) (by decide)) hs _ (fun c => by simpa using u8_all (P := fun c => inSet ⟨#[32, 9, 10, 13]⟩ c == isBlank c) (by decide +kernel) c)
theorem run_letters (s : ByteArray) (hs : s.size ≤ 140737488355328) : tokens_run.f s ⟨#[97, 98, 99, 100, 101, 102, 103, 104, 105, 106, 107, 108, 109, 110, 111, 112, 113, 114, 115, 116, 117, 118, 119, 120, 121, 122, 65, 66, 67, 68, 69, 70, 71, 72, 73, 74, 75, 76, 77, 78, 79, 80, 81, 82, 83, 84, 85, 86, 87, 88, 89, 90]⟩ = some (runLen isLetter (bl s) : Int) :=
  run_is s _ (ascii_of (l := [97, 98, 99, 100, 101, 102, 103, 104, 105, 106, 107, 108, 109, 110, 111, 112, 113, 114, 115, 116, 117, 118, 119, 120, 121, 122, 65, 66, 67, 68, 69, 70, 71, 72, 73, 74, 75, 76, 77, 78, 79, 80, 81, 82, 83, 84, 85, 86, 87, 88, 89, 90]) (by decide)) hs _ (fun c => by simpa using u8_all (P := fun c => inSet ⟨#[97, 98, 99, 100, 101, 102, 103, 104, 105, 106, 107, 108, 109, 110, 111, 112, 113, 114, 115, 116, 117, 118, 119, 120, 121, 122, 65, 66, 67, 68, 69, 70, 71, 72, 73, 74, 75, 76, 77, 78, 79, 80, 81, 82, 83, 84, 85, 86, 87, 88, 89, 90]⟩ c == isLetter c) (by decide +kernel) c)
theorem run_words (s : ByteArray) (hs : s.size ≤ 140737488355328) : tokens_run.f s ⟨#[97, 98, 99, 100, 101, 102, 103, 104, 105, 106, 107, 108, 109, 110, 111, 112, 113, 114, 115, 116, 117, 118, 119, 120, 121, 122, 65, 66, 67, 68, 69, 70, 71, 72, 73, 74, 75, 76, 77, 78, 79, 80, 81, 82, 83, 84, 85, 86, 87, 88, 89, 90, 48, 49, 50, 51, 52, 53, 54, 55, 56, 57, 95]⟩ = some (runLen isWordc (bl s) : Int) :=
  run_is s _ (ascii_of (l := [97, 98, 99, 100, 101, 102, 103, 104, 105, 106, 107, 108, 109, 110, 111, 112, 113, 114, 115, 116, 117, 118, 119, 120, 121, 122, 65, 66, 67, 68, 69, 70, 71, 72, 73, 74, 75, 76, 77, 78, 79, 80, 81, 82, 83, 84, 85, 86, 87, 88, 89, 90, 48, 49, 50, 51, 52, 53, 54, 55, 56, 57, 95]) (by decide)) hs _ (fun c => by simpa using u8_all (P := fun c => inSet ⟨#[97, 98, 99, 100, 101, 102, 103, 104, 105, 106, 107, 108, 109, 110, 111, 112, 113, 114, 115, 116, 117, 118, 119, 120, 121, 122, 65, 66, 67, 68, 69, 70, 71, 72, 73, 74, 75, 76, 77, 78, 79, 80, 81, 82, 83, 84, 85, 86, 87, 88, 89, 90, 48, 49, 50, 51, 52, 53, 54, 55, 56, 57, 95]⟩ c == isWordc c) (by decide +kernel) c)

/-! ### words, numbers, signs -/
theorem word_is (s : ByteArray) (hs : s.size ≤ 140737488355328) (h0 : 0 < s.size) : tokens_word.f s = some (wordLen (bl s) : Int) := by
  have h1 : (s.extract 0 1).size ≤ 140737488355328 := by rw [← bl_size, bl_to]; simp; omega
  unfold tokens_word.f
  rw [if_pos (by omega), if_pos (by omega), run_letters _ h1, run_words _ hs]
  simp only [Option.bind_some]
  rw [bl_to]
  match hb : bl s, (show 0 < (bl s).length from h0) with
  | c :: r, _ =>
    simp only [List.take_succ_cons, List.take_zero, runLen, wordLen]
    by_cases hc : isLetter c = true
    · have : isWordc c = true := by simp [isWordc, hc]
      simp [hc, this]
    · simp [hc]
theorem has_prefix (s t : ByteArray) : stringslite_HasPrefix.f s t = some (decide ((bl s).take t.size = bl t)) := by
  unfold stringslite_HasPrefix.f
  by_cases h : (s.size : Int) ≥ (t.size : Int)
  · rw [if_pos h, if_pos (by omega), if_pos (by omega), ByteArray.toList_eq, ByteArray.toList_eq]
    congr 1
    show (bl (s.extract 0 _) == bl t) = _
    rw [bl_to, Bool.eq_iff_iff]
    simp
  · rw [if_neg h]
    congr 1
    symm
    rw [decide_eq_false_iff_not]
    intro he
    have := congrArg List.length he
    simp only [List.length_take, bl_size] at this
    omega
theorem cut_point (r : ByteArray) : strings_CutPrefix.f r ⟨#[46]⟩ = match bl r with | 46 :: q => some (⟨q.toArray⟩, true) | _ => some (r, false) := by
  have hz : (⟨#[46]⟩ : ByteArray).size = 1 := rfl
  have hb : bl ⟨#[46]⟩ = [46] := rfl
  unfold strings_CutPrefix.f stringslite_CutPrefix.f
  rw [has_prefix, hz, hb]
  simp only [Option.bind_some]
  have hs := bl_size r
  match hr : bl r with
  | [] => simp
  | c :: q =>
    rw [hr] at hs
    simp only [List.length_cons] at hs
    by_cases hc : c = 46
    · subst hc
      have hd : decide (List.take 1 ((46 : UInt8) :: q) = [46]) = true := by simp
      rw [hd]
      simp only [if_true]
      rw [if_pos (by decide), if_pos (by omega)]
      simp only [Option.bind_some]
      have : r.extract ((1 : Nat) : Int).toNat r.size = ⟨q.toArray⟩ := bl_inj (by rw [bl_from, hr, bl_mk]; rfl)
      rw [this]
    · have hd : decide (List.take 1 (c :: q) = [46]) = false := by simp [hc]
      rw [hd]
      simp only [Bool.false_eq_true, if_false, Option.bind_some]
      split
      · rename_i he; injection he with he _; exact absurd he hc
      · rfl
theorem tail_is (s : ByteArray) (n : Nat) (hn : 0 < n) (hs : s.size ≤ 140737488355328) (hl : n ≤ s.size) :
    ((strings_CutPrefix.f (s.extract n s.size) ⟨#[46]⟩).bind fun b => if b.2 = true then (if (n : Int) > 0 then ((tokens_run.f b.1 ⟨#[48, 49, 50, 51, 52, 53, 54, 55, 56, 57]⟩).bind fun t => if t > 0 then ((tokens_run.f b.1 ⟨#[48, 49, 50, 51, 52, 53, 54, 55, 56, 57]⟩).bind fun u => some (wrap64 ((n : Int) + wrap64 (1 + u)))) else some (n : Int)) else some (n : Int)) else some (n : Int)) = some ((n + tailLen ((bl s).drop n) : Nat) : Int) := by
  have hb : bl (s.extract n s.size) = (bl s).drop n := bl_from s n
  have hlen : ((bl s).drop n).length = s.size - n := by rw [List.length_drop, bl_size]
  rw [cut_point, hb]
  match hr : (bl s).drop n with
  | [] => simp [tailLen]
  | c :: r =>
    rw [hr] at hlen
    simp only [List.length_cons] at hlen
    by_cases hc : c = 46
    · subst hc
      have hqs : (⟨r.toArray⟩ : ByteArray).size ≤ 140737488355328 := by rw [← bl_size, bl_mk]; omega
      have hrl := runLen_le isDigit r
      simp only [Option.bind_some, if_true]
      rw [if_pos (by omega), run_digits _ hqs, bl_mk]
      simp only [Option.bind_some, tailLen]
      by_cases h0 : 0 < runLen isDigit r
      · rw [if_pos (by omega), if_pos h0, w64 (x := 1 + _) (by omega) (by omega), w64 (by omega) (by omega)]
        congr 1; omega
      · rw [if_neg (by omega), if_neg h0]; rfl
    · have ht : tailLen (c :: r) = 0 := by
        unfold tailLen
        split
        · rename_i he; injection he with he _; exact absurd he hc
        · rfl
      rw [ht]
      split
      · rename_i he; injection he with he _; exact absurd he hc
      · simp
theorem number_is (s : ByteArray) (hs : s.size ≤ 140737488355328) : tokens_number.f s = some (numLen (bl s) : Int) := by
  have hl := runLen_le isDigit (bl s)
  rw [bl_size] at hl
  unfold tokens_number.f numLen
  rw [run_digits s hs]
  simp only [Option.bind_some]
  rw [if_pos (by omega), if_pos (by omega)]
  by_cases h0 : 0 < runLen isDigit (bl s)
  · rw [if_pos h0]
    have := tail_is s (runLen isDigit (bl s)) h0 hs hl
    rw [Int.toNat_natCast]
    exact this
  · have h1 : runLen isDigit (bl s) = 0 := by omega
    rw [if_neg h0, h1, cut_point]
    split <;> simp
theorem two_is (s : ByteArray) (c : UInt8) : decide ((bl s).take 2 = [c, 61]) = match bl s with | a :: b :: _ => a == c && b == 61 | _ => false := by
  match bl s with
  | [] => simp
  | [a] => simp
  | a :: b :: r => rw [Bool.eq_iff_iff]; simp
theorem indexByte_mem (l : List UInt8) (c : UInt8) : (Lib.indexByte l c ≥ 0) ↔ l.contains c = true := by
  induction l with
  | nil => simp [Lib.indexByte]
  | cons a l ih =>
    have hge := Lib.indexByte_ge l c
    simp only [Lib.indexByte, List.contains_cons]
    by_cases h : a = c
    · subst h; simp
    · have h' : (c == a) = false := by simpa using fun e => h e.symm
      rw [if_neg (by simpa using h), h', Bool.false_or, ← ih]
      split
      · rename_i h2; rw [beq_iff_eq] at h2; rw [h2]
      · rename_i h2; rw [beq_iff_eq] at h2; omega
theorem sign_is (k : Nat) (s : ByteArray) (h0 : 0 < s.size) : tokens_sign.f (k + 1) s = some (signLen (bl s) : Int) := by
  have hz1 : (⟨#[60, 61]⟩ : ByteArray).size = 2 := rfl
  have hz2 : (⟨#[62, 61]⟩ : ByteArray).size = 2 := rfl
  have hb1 : bl ⟨#[60, 61]⟩ = [60, 61] := rfl
  have hb2 : bl ⟨#[62, 61]⟩ = [62, 61] := rfl
  have hj : ∀ b : Bool, tokens_sign.j0 (k + 1) s b = some (if b = true then 2 else match bl s with | [] => 0 | c :: _ => if signs.contains c then 1 else 0) := by
    intro b
    cases b
    · simp only [tokens_sign.j0, strings_IndexByte.f, Option.bind_some]
      rw [if_neg (by decide), if_pos (by omega), show bt s 0 = _ from bt_bl s 0 h0]
      match hb : bl s, (show 0 < (bl s).length from h0) with
      | c :: r, _ =>
        have hm := indexByte_mem signs c
        change (if Lib.indexByte signs _ ≥ 0 then _ else _) = _
        rw [show ((((c :: r)[0]).toNat : Int).toNat.toUInt8) = c by simp]
        by_cases h : signs.contains c = true
        · rw [if_pos (hm.2 h)]; simp only [h, if_true]; rfl
        · have h' : signs.contains c = false := by simpa using h
          rw [if_neg (fun e => h (hm.1 e))]; simp only [h']; rfl
    · simp [tokens_sign.j0]
  unfold tokens_sign.f strings_HasPrefix.f
  rw [has_prefix, has_prefix, hz1, hz2, hb1, hb2, two_is, two_is]
  simp only [Option.bind_some, hj]
  unfold signLen
  match bl s with
  | [] => simp [two]
  | [a] => simp [two]; split <;> rfl
  | a :: b :: r =>
    simp only [two]
    by_cases h1 : a = 60 <;> by_cases h2 : a = 62 <;> by_cases h3 : b = 61 <;> simp_all <;> split <;> rfl
theorem pick_is (k : Nat) (s : ByteArray) (hs : s.size ≤ 140737488355328) (h0 : 0 < s.size) : tokens_Read.pick (k + 1) s = some (((pick (bl s)).1 : Int), ((pick (bl s)).2 : Int)) := by
  unfold tokens_Read.pick pick
  rw [word_is s hs h0, number_is s hs, sign_is k s h0]
  simp only [Option.bind_some]
  repeat' split
  all_goals (first | rfl | omega)

/-! ### the reader -/
def enc (t : Tok) : S52 := ⟨(t.kind : Int), ⟨t.text.toArray⟩, (t.pos : Int)⟩
def told (acc : List S52) : Except Nat (List Tok) → List S52 × Int × Int
  | .ok l => (acc ++ l.map enc, 0, 0)
  | .error a => ([], (a : Int), 4)
theorem lex_blanks (p : Nat) (r : L) : lex p r = lex (p + runLen isBlank r) (r.drop (runLen isBlank r)) := by
  induction r generalizing p with
  | nil => rfl
  | cons c r ih =>
    by_cases hc : isBlank c = true
    · simp only [runLen, hc, if_true, List.drop_succ_cons]
      rw [lex_blank hc, ih (p + 1)]
      congr 1; omega
    · simp only [runLen, hc]; rfl
theorem cut_line (r : ByteArray) (hs : r.size ≤ 65536) : ∃ x y, strings_Cut.f r ⟨#[10]⟩ = some (x, y) ∧ x.size = runLen notNl (bl r) := by
  have hz : ((⟨#[10]⟩ : ByteArray).size : Int) = 1 := rfl
  have hix : stringslite_Index.f r ⟨#[10]⟩ = some (Lib.indexByte (bl r) 10) := rfl
  unfold strings_Cut.f stringslite_Cut.f
  rw [hix, hz]
  simp only [Option.bind_some]
  have key : ∀ l : List UInt8, (Lib.indexByte l 10 = -1 ∧ runLen notNl l = l.length) ∨ (Lib.indexByte l 10 = (runLen notNl l : Int) ∧ runLen notNl l < l.length) := by
    intro l
    induction l with
    | nil => exact .inl ⟨rfl, rfl⟩
    | cons a l ih =>
      simp only [Lib.indexByte, runLen, List.length_cons]
      by_cases ha : a = 10
      · subst ha; right; simp [notNl]
      · have h1 : notNl a = true := by simp [notNl, ha]
        rw [if_neg (by simpa using ha), h1]
        simp only [if_true]
        rcases ih with ⟨h2, h3⟩ | ⟨h2, h3⟩
        · left; rw [h2]; exact ⟨rfl, by omega⟩
        · right; rw [if_neg (by simp; omega), h2]; exact ⟨by omega, by omega⟩
  rcases key (bl r) with ⟨h2, h3⟩ | ⟨h2, h3⟩
  · rw [h2, if_neg (by omega)]
    exact ⟨_, _, rfl, by rw [h3, bl_size]⟩
  · rw [bl_size] at h3
    rw [h2, if_pos (by omega), if_pos (by omega), if_pos (by omega), w64 (by omega) (by omega), if_pos (by omega), if_pos (by omega)]
    refine ⟨_, _, rfl, ?_⟩
    rw [← bl_size, bl_to, List.length_take, bl_size]
    omega
theorem told_cons (acc : List S52) (t : Tok) (x : Except Nat (List Tok)) : told acc (cons' t x) = told (acc ++ [enc t]) x := by
  cases x <;> simp [told, cons']
theorem l0_is (s : ByteArray) (hs : s.size ≤ 65536) : ∀ (k p : Nat) (acc : List S52), p ≤ s.size → s.size - p + 1 < k → acc.length ≤ p →
    tokens_Read.l0 k s acc (p : Int) = some (told acc (lex p ((bl s).drop p))) := by
  intro k
  induction k with
  | zero => intro p acc h1 h2; omega
  | succ k ih =>
    intro p acc h1 h2 h3
    by_cases hp : p < s.size
    · have hx : (s.extract (p : Int).toNat s.size).size = s.size - p := by rw [Int.toNat_natCast]; exact size_extract_from s p
      have hb : bl (s.extract (p : Int).toNat s.size) = (bl s).drop p := by rw [Int.toNat_natCast]; exact bl_from s p
      generalize hr : s.extract (p : Int).toNat s.size = rest at hx hb
      have hlr : ((bl s).drop p).length = s.size - p := by rw [← hb, bl_size, hx]
      simp only [tokens_Read.l0]
      rw [if_pos (by omega), if_pos (by omega), hr, run_blanks rest (by omega), hb]
      simp only [Option.bind_some]
      have hle := runLen_le isBlank ((bl s).drop p)
      rw [hlr] at hle
      by_cases hn : 0 < runLen isBlank ((bl s).drop p)
      · rw [if_pos (by omega), w64 (by omega) (by omega), lex_blanks p, List.drop_drop, ← Int.natCast_add]
        exact ih _ acc (by omega) (by omega) (by omega)
      · rw [if_neg (by omega), if_pos (by omega)]
        match hd : (bl s).drop p, hlr with
        | [], hlr => simp at hlr; omega
        | c :: r, hlr =>
          rw [hd] at hn hb
          have hcb : isBlank c = false := by
            by_cases hc : isBlank c = true
            · simp [runLen, hc] at hn
            · simpa using hc
          have hbt : bt rest 0 = (c.toNat : Int) := by
            have := bt_bl rest 0 (by omega)
            simp only [hb] at this
            exact this
          rw [hbt]
          by_cases hc : c = 35
          · subst hc
            rw [if_pos (by decide)]
            obtain ⟨x, y, hxy, hxs⟩ := cut_line rest (by omega)
            rw [hb] at hxs
            simp only [runLen, show notNl 35 = true by decide, if_true] at hxs
            have hrl := runLen_le notNl r
            simp only [List.length_cons] at hlr
            rw [hxy]
            simp only [Option.bind_some]
            rw [lex_hash, hxs, w64 (by omega) (by omega)]
            have hdr : r.drop (runLen notNl r) = (bl s).drop (p + (runLen notNl r + 1)) := by
              rw [← List.drop_drop, hd, List.drop_succ_cons]
            rw [hdr, ← Int.natCast_add]
            exact ih _ acc (by omega) (by omega) (by omega)
          · have hcn : ¬ ((c.toNat : Int) = 35) := by
              intro h
              exact hc (UInt8.toNat_inj.1 (by simpa using (by omega : c.toNat = 35)))
            obtain ⟨k', rfl⟩ : ∃ k', k = k' + 1 := ⟨k - 1, by omega⟩
            rw [if_neg hcn, pick_is k' rest (by omega) (by omega), hb]
            simp only [Option.bind_some]
            have hpl := pick_le (c :: r)
            rw [hlr] at hpl
            by_cases h0 : (pick (c :: r)).2 = 0
            · have h10 : (pick (c :: r)).1 = 0 := by
                unfold pick at h0 ⊢
                repeat' split
                all_goals simp_all
              rw [if_neg (by omega), lex_bad hcb hc h0]
              rfl
            · have h10 := pick_pos h0
              rw [if_pos (by omega), if_pos (by omega), if_pos (by omega), if_pos (by omega), lex_tok hcb hc h0, told_cons, w64 (by omega) (by omega), ← Int.natCast_add]
              have he : (⟨((pick (c :: r)).1 : Int), rest.extract 0 ((pick (c :: r)).2 : Int).toNat, (p : Int)⟩ : S52) = enc ⟨(pick (c :: r)).1, (c :: r).take (pick (c :: r)).2, p⟩ := by
                simp only [enc]
                congr 1
                exact bl_inj (by show bl _ = bl _; rw [Int.toNat_natCast, bl_to, hb, bl_mk])
              rw [he]
              have hdr : (c :: r).drop (pick (c :: r)).2 = (bl s).drop (p + (pick (c :: r)).2) := by
                rw [← List.drop_drop, hd]
              rw [hdr]
              exact ih _ _ (by omega) (by omega) (by simp; omega)
    · have hd : (bl s).drop p = [] := List.drop_of_length_le (by rw [bl_size]; omega)
      simp only [tokens_Read.l0]
      rw [if_neg (by omega), hd, lex_nil]
      simp [told]
/-- What Read tells of any text that is not too long, with rounds enough. -/
theorem read_is (s : ByteArray) (hs : s.size ≤ 65536) (k : Nat) (hk : s.size + 1 < k) : tokens_Read.f k s = some (told [] (lex 0 (bl s))) := by
  unfold tokens_Read.f
  rw [if_neg (by omega)]
  have := l0_is s hs k 0 [] (by omega) (by omega) (by simp)
  rw [List.drop_zero] at this
  exact this
end Go.Proofs.YtgebfcdpbeaknaaGreatDoor.Tg
end

/-! #### RefWord -/
section
set_option linter.unusedVariables false
set_option linter.unusedSimpArgs false
namespace Go.Proofs.YtgebfcdpbeaknaaGreatDoor.Rf
open Go Go.RowKit Go.Proofs.YtgebfcdpbeaknaaGreatDoor.X Go.Proofs.YtgebfcdpbeaknaaGreatDoorW.PrintWords Go.Proofs.YtgebfcdpbeaknaaGreatDoorW.PrintLast Tk Go.Proofs.YtgebfcdpbeaknaaGreatDoor.Tg

theorem letter_is (c : UInt8) : assayerref06_letter.f (c.toNat : Int) = some (isLetter c) := by
  have h : ∀ c : UInt8, (assayerref06_letter.f (c.toNat : Int) == some (isLetter c)) = true := u8_all (by decide +kernel)
  simpa using h c
theorem digit_is (c : UInt8) : assayerref06_digit.f (c.toNat : Int) = some (isDigit c) := by
  have h : ∀ c : UInt8, (assayerref06_digit.f (c.toNat : Int) == some (isDigit c)) = true := u8_all (by decide +kernel)
  simpa using h c
theorem ref_word_l0 (s : ByteArray) (hs : s.size ≤ 140737488355328) (a : Nat) (k : Nat) : ∀ i : Nat, a + i ≤ s.size → s.size - (a + i) < k →
    assayerref06_word.l0 k s (a : Int) ((a + i : Nat) : Int) = some ((i + (if i = 0 then wordLen ((bl s).drop a) else runLen isWordc ((bl s).drop (a + i))) : Nat) : Int) := by
  induction k with
  | zero => intro i h1 h2; omega
  | succ k ih =>
    intro i h1 h2
    simp only [assayerref06_word.l0]
    by_cases hi : a + i < s.size
    · have hl : a + i < (bl s).length := hi
      rw [if_pos (by omega), if_pos (by omega), bt_bl s (a + i) hi, letter_is, digit_is]
      have hd : (bl s).drop (a + i) = (bl s)[a + i] :: (bl s).drop (a + i + 1) := List.drop_eq_getElem_cons hl
      have hih := ih (i + 1) (by omega) (by omega)
      rw [if_neg (by omega : ¬ i + 1 = 0)] at hih
      have hn : wrap64 (((a + i : Nat) : Int) + 1) = ((a + (i + 1) : Nat) : Int) := by rw [w64 (by omega) (by omega)]; omega
      simp only [Option.bind_some]
      rw [hn]
      have hsub : wrap64 (((a + i : Nat) : Int) - (a : Int)) = (i : Int) := by rw [w64 (by omega) (by omega)]; omega
      rw [hsub, hih]
      generalize (bl s)[a + i] = c at hd ⊢
      have h95 : ((c.toNat : Int) = 95) ↔ c = 95 := by
        constructor
        · intro h; exact UInt8.toNat_inj.1 (show c.toNat = 95 by omega)
        · intro h; rw [h]; rfl
      have hR : (bl s).drop (a + (i + 1)) = (bl s).drop (a + i + 1) := rfl
      rw [hR]
      by_cases hz : i = 0
      · subst hz
        rw [if_pos rfl, show (bl s).drop a = (bl s).drop (a + 0) from rfl, hd]
        by_cases hc : isLetter c = true
        · simp only [hc, if_true, wordLen]; congr 2; omega
        · rw [if_neg hc, if_neg (by omega)]
          simp only [wordLen, if_neg hc]
      · rw [if_neg hz, hd, if_pos (show ((a + i : Nat) : Int) > (a : Int) by omega)]
        simp only [runLen]
        by_cases hw : isWordc c = true
        · rw [if_pos hw]
          have hw2 := hw
          unfold isWordc at hw2
          simp only [Bool.or_eq_true, beq_iff_eq] at hw2
          by_cases hc : isLetter c = true
          · rw [if_pos hc]; congr 2; omega
          · rw [if_neg hc]
            by_cases hg : isDigit c = true
            · rw [if_pos hg]; congr 2; omega
            · rw [if_neg hg, if_pos (h95.2 (by rcases hw2 with (h | h) | h <;> simp_all))]; congr 2; omega
        · rw [if_neg hw]
          have hw2 := hw
          unfold isWordc at hw2
          simp only [Bool.or_eq_true, beq_iff_eq, not_or] at hw2
          rw [if_neg hw2.1.1, if_neg hw2.1.2, if_neg (fun h => hw2.2 (h95.1 h))]
          simp
    · have hd : (bl s).drop (a + i) = [] := List.drop_of_length_le (by rw [bl_size]; omega)
      rw [if_neg (by omega), w64 (by omega) (by omega)]
      congr 1
      by_cases hz : i = 0
      · subst hz
        rw [if_pos rfl, show (bl s).drop a = [] from hd]
        simp only [wordLen]; omega
      · rw [if_neg hz, hd]
        simp only [runLen]; omega
theorem ref_word_is (s : ByteArray) (hs : s.size ≤ 140737488355328) (a : Nat) (ha : a ≤ s.size) (k : Nat) (hk : s.size - a < k) : assayerref06_word.f k s (a : Int) = some (wordLen ((bl s).drop a) : Int) := by
  have := ref_word_l0 s hs a k 0 (by omega) (by omega)
  simpa [assayerref06_word.f] using this

/-! ### numbers -/
theorem digits_l0 (s : ByteArray) (hs : s.size ≤ 140737488355328) (a : Nat) (k : Nat) : ∀ i : Nat, a + i ≤ s.size → s.size - (a + i) < k →
    assayerref06_digits.l0 k s (a : Int) ((a + i : Nat) : Int) = some ((i + runLen isDigit ((bl s).drop (a + i)) : Nat) : Int) := by
  induction k with
  | zero => intro i h1 h2; omega
  | succ k ih =>
    intro i h1 h2
    simp only [assayerref06_digits.l0]
    have hsub : wrap64 (((a + i : Nat) : Int) - (a : Int)) = (i : Int) := by rw [w64 (by omega) (by omega)]; omega
    rw [hsub]
    by_cases hi : a + i < s.size
    · have hl : a + i < (bl s).length := hi
      rw [if_pos (by omega), if_pos (by omega), bt_bl s (a + i) hi, digit_is]
      have hd : (bl s).drop (a + i) = (bl s)[a + i] :: (bl s).drop (a + i + 1) := List.drop_eq_getElem_cons hl
      have hn : wrap64 (((a + i : Nat) : Int) + 1) = ((a + (i + 1) : Nat) : Int) := by rw [w64 (by omega) (by omega)]; omega
      simp only [Option.bind_some]
      rw [hn, ih (i + 1) (by omega) (by omega), hd]
      have hR : (bl s).drop (a + (i + 1)) = (bl s).drop (a + i + 1) := rfl
      rw [hR]
      simp only [runLen]
      by_cases hc : isDigit (bl s)[a + i] = true
      · rw [if_pos hc, if_pos hc]; congr 2; omega
      · rw [if_neg hc, if_neg hc]; rfl
    · have hd : (bl s).drop (a + i) = [] := List.drop_of_length_le (by rw [bl_size]; omega)
      rw [if_neg (by omega), hd]
      rfl
theorem digits_is (s : ByteArray) (hs : s.size ≤ 140737488355328) (a : Nat) (ha : a ≤ s.size) (k : Nat) (hk : s.size - a < k) : assayerref06_digits.f k s (a : Int) = some (runLen isDigit ((bl s).drop a) : Int) := by
  have := digits_l0 s hs a k 0 (by omega) (by omega)
  simpa [assayerref06_digits.f] using this
theorem number_is (s : ByteArray) (hs : s.size ≤ 140737488355328) (a : Nat) (ha : a ≤ s.size) (k : Nat) (hk : s.size - a < k) : assayerref06_number.f (k + 1) s (a : Int) = some (numLen ((bl s).drop a) : Int) := by
  unfold assayerref06_number.f numLen
  rw [digits_is s hs a ha (k + 1) (by omega)]
  have hl := runLen_le isDigit ((bl s).drop a)
  rw [List.length_drop, bl_size] at hl
  generalize hm : runLen isDigit ((bl s).drop a) = m at hl ⊢
  have hj : ∀ t : Int, assayerref06_number.j0 (k + 1) s (a : Int) t true = some t := fun t => by simp [assayerref06_number.j0]
  simp only [Option.bind_some, hj]
  by_cases h0 : m = 0
  · subst h0; rw [if_pos (by omega), if_neg (by omega)]
  · have hw : wrap64 ((a : Int) + (m : Int)) = ((a + m : Nat) : Int) := by rw [w64 (by omega) (by omega)]; omega
    rw [if_neg (show ¬ (m : Int) = 0 by omega), hw, if_pos (show 0 < m by omega), List.drop_drop]
    by_cases h1 : a + m < s.size
    · have hl2 : a + m < (bl s).length := h1
      have hd : (bl s).drop (a + m) = (bl s)[a + m] :: (bl s).drop (a + m + 1) := List.drop_eq_getElem_cons hl2
      rw [if_neg (by omega), if_pos (by omega), if_pos (by omega), bt_bl s (a + m) h1, hd]
      generalize (bl s)[a + m] = c
      by_cases hc : c = 46
      · subst hc
        have hb : (((46 : UInt8).toNat : Int) != 46) = false := by decide
        have hw2 : wrap64 (((a + m : Nat) : Int) + 1) = ((a + m + 1 : Nat) : Int) := by rw [w64 (by omega) (by omega)]; omega
        rw [hb]
        simp only [assayerref06_number.j0, Bool.false_eq_true, if_false]
        rw [hw, hw2, digits_is s hs (a + m + 1) (by omega) k (by omega)]
        simp only [Option.bind_some, tailLen]
        have hl3 := runLen_le isDigit ((bl s).drop (a + m + 1))
        rw [List.length_drop, bl_size] at hl3
        by_cases h2 : 0 < runLen isDigit ((bl s).drop (a + m + 1))
        · rw [if_neg (by omega), if_pos h2, w64 (x := (m : Int) + 1) (by omega) (by omega), w64 (by omega) (by omega)]
          congr 1; omega
        · rw [if_pos (by omega), if_neg h2]
          rfl
      · have hb : (((c.toNat : Int)) != 46) = true := by
          rw [bne_iff_ne]
          intro h
          exact hc (UInt8.toNat_inj.1 (show c.toNat = 46 by omega))
        have ht : tailLen (c :: (bl s).drop (a + m + 1)) = 0 := by
          unfold tailLen
          split
          · rename_i he; injection he with he _; exact absurd he hc
          · rfl
        rw [hb, hj, ht]
        rfl
    · have hd : (bl s).drop (a + m) = [] := List.drop_of_length_le (by rw [bl_size]; omega)
      rw [if_pos (by omega), hd]
      rfl

/-! ### signs -/
def fm (r : L) : List L → Nat
  | [] => 0
  | x :: xs => if r.take x.length = x then x.length else fm r xs
theorem signs_l0 (s : ByteArray) (hs : s.size ≤ 140737488355328) (a : Nat) (ha : a ≤ s.size) (xs : List ByteArray) (hx : xs.length ≤ 100) (hz : ∀ x ∈ xs, x.size ≤ 100) (k : Nat) : ∀ i : Nat, i ≤ xs.length → xs.length - i < k →
    assayerref06_signs.l0 k s (a : Int) xs (i : Int) = some (fm ((bl s).drop a) ((xs.drop i).map bl) : Int) := by
  induction k with
  | zero => intro i h1 h2; omega
  | succ k ih =>
    intro i h1 h2
    simp only [assayerref06_signs.l0]
    by_cases hi : i < xs.length
    · have hn : wrap64 ((i : Int) + 1) = ((i + 1 : Nat) : Int) := by rw [w64 (by omega) (by omega)]; omega
      have hget : rdOf ByteArray.empty xs (i : Int) = xs[i] := by simp [rdOf, hi]
      have hsz := hz xs[i] (List.getElem_mem hi)
      rw [if_pos (by omega), if_pos (by omega), hget, hn, ih (i + 1) (by omega) (by omega), List.drop_eq_getElem_cons hi, List.map_cons, fm, bl_size, w64 (x := (s.size : Int) - (a : Int)) (by omega) (by omega), w64 (x := (a : Int) + (xs[i].size : Int)) (by omega) (by omega)]
      generalize xs[i] = x at hsz
      by_cases hge : x.size ≤ s.size - a
      · rw [if_pos (by omega), if_pos (by omega), if_pos (by omega), if_pos (by omega), ByteArray.toList_eq, ByteArray.toList_eq]
        have he : bl (s.extract (a : Int).toNat ((a : Int) + (x.size : Int)).toNat) = ((bl s).drop a).take x.size := by
          have h3 : ((a : Int) + (x.size : Int)).toNat = a + x.size := by omega
          rw [Int.toNat_natCast, h3, bl_extract]
          simp [List.drop_take]
        change (if bl _ = bl _ then _ else _) = _
        rw [he]
        split <;> rfl
      · rw [if_neg (by omega), if_neg (fun h => ?_)]
        have := congrArg List.length h
        rw [List.length_take, List.length_drop, bl_size, bl_size] at this
        omega
    · have hd : xs.drop i = [] := List.drop_of_length_le (by omega)
      rw [if_neg (by omega), hd]
      rfl
def sgs : List L := [[60, 61], [62, 61], [43], [45], [42], [47], [44], [58], [59], [61], [40], [41], [91], [93]]
theorem fm_one (c : UInt8) : fm [c] sgs = signLen [c] := by
  have h : ∀ c : UInt8, (fm [c] sgs == signLen [c]) = true := u8_all (by decide +kernel)
  simpa using h c
theorem fm_two (c : UInt8) : fm [c, 61] sgs = signLen [c, 61] := by
  have h : ∀ c : UInt8, (fm [c, 61] sgs == signLen [c, 61]) = true := u8_all (by decide +kernel)
  simpa using h c
theorem fm_is (r : L) : fm r sgs = signLen r := by
  match r with
  | [] => rfl
  | [c] => exact fm_one c
  | c :: d :: t =>
    by_cases h3 : d = 61
    · subst h3; exact fm_two c
    · have h4 : (d == 61) = false := by simpa using h3
      have e1 : fm (c :: d :: t) sgs = fm [c] sgs := by
        have a1 : ¬ (c :: d :: t).take [60, (61 : UInt8)].length = [60, 61] := by simp [h3]
        have a2 : ¬ (c :: d :: t).take [62, (61 : UInt8)].length = [62, 61] := by simp [h3]
        have b1 : ¬ [c].take [60, (61 : UInt8)].length = [60, 61] := by simp
        have b2 : ¬ [c].take [62, (61 : UInt8)].length = [62, 61] := by simp
        unfold sgs
        rw [fm, if_neg a1, fm, if_neg a2, fm.eq_2 [c] [60, 61], if_neg b1, fm.eq_2 [c] [62, 61], if_neg b2]
        rfl
      have e2 : signLen (c :: d :: t) = signLen [c] := by simp [signLen, two, h4]
      rw [e1, e2, fm_one]
theorem signs_is (s : ByteArray) (hs : s.size ≤ 140737488355328) (a : Nat) (ha : a ≤ s.size) (k : Nat) (hk : 14 < k) : assayerref06_signs.f k s (a : Int) = some (signLen ((bl s).drop a) : Int) := by
  unfold assayerref06_signs.f
  have := signs_l0 s hs a ha [(⟨#[60, 61]⟩ : ByteArray), (⟨#[62, 61]⟩ : ByteArray), (⟨#[43]⟩ : ByteArray), (⟨#[45]⟩ : ByteArray), (⟨#[42]⟩ : ByteArray), (⟨#[47]⟩ : ByteArray), (⟨#[44]⟩ : ByteArray), (⟨#[58]⟩ : ByteArray), (⟨#[59]⟩ : ByteArray), (⟨#[61]⟩ : ByteArray), (⟨#[40]⟩ : ByteArray), (⟨#[41]⟩ : ByteArray), (⟨#[91]⟩ : ByteArray), (⟨#[93]⟩ : ByteArray)] (by decide) (by decide) k 0 (by simp) (by simpa using hk)
  rw [← fm_is]
  exact this
end Go.Proofs.YtgebfcdpbeaknaaGreatDoor.Rf
end

/-! #### RefRead -/
section
set_option linter.unusedVariables false
set_option linter.unusedSimpArgs false
namespace Go.Proofs.YtgebfcdpbeaknaaGreatDoor.Rf
open Go Go.RowKit Go.Proofs.YtgebfcdpbeaknaaGreatDoor.X Go.Proofs.YtgebfcdpbeaknaaGreatDoorW.PrintWords Go.Proofs.YtgebfcdpbeaknaaGreatDoorW.PrintLast Tk Go.Proofs.YtgebfcdpbeaknaaGreatDoor.Tg

theorem wnext (p : Nat) (h : p ≤ 65536) : wrap64 ((p : Int) + 1) = ((p + 1 : Nat) : Int) := by rw [w64 (by omega) (by omega)]; omega
theorem wadd (p n : Nat) (h : p + n ≤ 65536) : wrap64 ((p : Int) + (n : Int)) = ((p + n : Nat) : Int) := by rw [w64 (by omega) (by omega)]; omega
theorem comment (s : ByteArray) (hs : s.size ≤ 65536) (acc : List S52) : ∀ (m p k : Nat), p ≤ s.size → runLen notNl ((bl s).drop p) = m →
    assayerref06_Read.l1 (k + m + 1) s acc (p : Int) = assayerref06_Read.l0 k s acc ((p + m : Nat) : Int) := by
  intro m
  induction m with
  | zero =>
    intro p k hp hm
    simp only [assayerref06_Read.l1, Nat.add_zero]
    by_cases hi : p < s.size
    · have hd : (bl s).drop p = (bl s)[p]'hi :: (bl s).drop (p + 1) := List.drop_eq_getElem_cons hi
      rw [if_pos (by omega), if_pos (by omega), bt_bl s p hi]
      rw [hd] at hm
      simp only [runLen] at hm
      have hn : notNl (bl s)[p] = false := by
        by_cases h : notNl (bl s)[p] = true
        · rw [if_pos h] at hm; omega
        · simpa using h
      have h10 : (bl s)[p] = 10 := by simpa [notNl] using hn
      rw [h10, if_pos (by decide)]
    · rw [if_neg (by omega)]
  | succ m ih =>
    intro p k hp hm
    by_cases hi : p < s.size
    · have hd : (bl s).drop p = (bl s)[p]'hi :: (bl s).drop (p + 1) := List.drop_eq_getElem_cons hi
      rw [hd] at hm
      simp only [runLen] at hm
      by_cases h : notNl (bl s)[p] = true
      · rw [if_pos h] at hm
        have h10 : ¬ (((bl s)[p]).toNat : Int) = 10 := by
          intro h2
          have : (bl s)[p] = 10 := UInt8.toNat_inj.1 (show ((bl s)[p]).toNat = 10 by omega)
          rw [this] at h
          simp [notNl] at h
        have := ih (p + 1) k (by omega) (by omega)
        rw [show k + (m + 1) + 1 = (k + m + 1) + 1 by omega]
        generalize k + m + 1 = K at this ⊢
        simp only [assayerref06_Read.l1]
        rw [if_pos (by omega), if_pos (by omega), bt_bl s p hi, if_neg h10, wnext p (by omega), this]
        congr 2; omega
      · rw [if_neg h] at hm; omega
    · have hd : (bl s).drop p = [] := List.drop_of_length_le (by rw [bl_size]; omega)
      rw [hd] at hm
      simp [runLen] at hm
theorem eq32 (c : UInt8) : (c.toNat : Int) = 32 ↔ c = 32 := by
  constructor
  · intro h; exact UInt8.toNat_inj.1 (show c.toNat = 32 by omega)
  · intro h; rw [h]; rfl
theorem eq9 (c : UInt8) : (c.toNat : Int) = 9 ↔ c = 9 := by
  constructor
  · intro h; exact UInt8.toNat_inj.1 (show c.toNat = 9 by omega)
  · intro h; rw [h]; rfl
theorem eq10 (c : UInt8) : (c.toNat : Int) = 10 ↔ c = 10 := by
  constructor
  · intro h; exact UInt8.toNat_inj.1 (show c.toNat = 10 by omega)
  · intro h; rw [h]; rfl
theorem eq13 (c : UInt8) : (c.toNat : Int) = 13 ↔ c = 13 := by
  constructor
  · intro h; exact UInt8.toNat_inj.1 (show c.toNat = 13 by omega)
  · intro h; rw [h]; rfl
theorem eq35 (c : UInt8) : (c.toNat : Int) = 35 ↔ c = 35 := by
  constructor
  · intro h; exact UInt8.toNat_inj.1 (show c.toNat = 35 by omega)
  · intro h; rw [h]; rfl
theorem blank_if {α : Type} (c : UInt8) (x : Bool → α) : (if (c.toNat : Int) = 32 then x true else (if (c.toNat : Int) = 9 then x true else (if (c.toNat : Int) = 10 then x true else x ((c.toNat : Int) == 13)))) = x (isBlank c) := by
  have c4 : ((c.toNat : Int) == 13) = (c == 13) := by rw [Bool.eq_iff_iff, beq_iff_eq, beq_iff_eq]; exact eq13 c
  rw [c4]
  unfold isBlank
  by_cases b1 : (c.toNat : Int) = 32
  · rw [if_pos b1]
    have : (c == 32) = true := beq_iff_eq.2 ((eq32 c).1 b1)
    rw [this]; rfl
  · rw [if_neg b1]
    have e1 : (c == 32) = false := by
      rw [Bool.eq_false_iff]; intro h; exact b1 ((eq32 c).2 (beq_iff_eq.1 h))
    rw [e1]
    by_cases b2 : (c.toNat : Int) = 9
    · rw [if_pos b2]
      have : (c == 9) = true := beq_iff_eq.2 ((eq9 c).1 b2)
      rw [this]; rfl
    · rw [if_neg b2]
      have e2 : (c == 9) = false := by
        rw [Bool.eq_false_iff]; intro h; exact b2 ((eq9 c).2 (beq_iff_eq.1 h))
      rw [e2]
      by_cases b3 : (c.toNat : Int) = 10
      · rw [if_pos b3]
        have : (c == 10) = true := beq_iff_eq.2 ((eq10 c).1 b3)
        rw [this]; rfl
      · rw [if_neg b3]
        have e3 : (c == 10) = false := by
          rw [Bool.eq_false_iff]; intro h; exact b3 ((eq10 c).2 (beq_iff_eq.1 h))
        rw [e3]; rfl
theorem first_l0 (s : ByteArray) (acc : List S52) (p k : Nat) (c : UInt8) (hp : p < s.size) (hbt : bt s (p : Int) = (c.toNat : Int)) : assayerref06_Read.l0 (k + 1) s acc (p : Int) = assayerref06_Read.j1 k s acc (p : Int) (c.toNat : Int) (isBlank c) := by
  rw [assayerref06_Read.l0]
  rw [if_pos (by omega), if_pos (by omega), hbt]
  exact blank_if c (fun b => assayerref06_Read.j1 k s acc (p : Int) (c.toNat : Int) b)
set_option maxHeartbeats 1000000 in
theorem read_l0 (s : ByteArray) (hs : s.size ≤ 65536) : ∀ (n p k : Nat) (acc : List S52), s.size - p ≤ n → p ≤ s.size → 4 * (s.size - p) + 30 < k → acc.length ≤ p →
    assayerref06_Read.l0 k s acc (p : Int) = some (told acc (lex p ((bl s).drop p))) := by
  intro n
  induction n with
  | zero =>
    intro p k acc h0 h1 h2 h3
    obtain ⟨k, rfl⟩ : ∃ m, k = m + 1 := ⟨k - 1, by omega⟩
    have hd : (bl s).drop p = [] := List.drop_of_length_le (by rw [bl_size]; omega)
    simp only [assayerref06_Read.l0]
    rw [if_neg (by omega), hd, lex_nil]
    simp [told]
  | succ n ih =>
    intro p k acc h0 h1 h2 h3
    by_cases hp : p < s.size
    · obtain ⟨k, rfl⟩ : ∃ m, k = m + 4 := ⟨k - 4, by omega⟩
      have hd : (bl s).drop p = (bl s)[p]'hp :: (bl s).drop (p + 1) := List.drop_eq_getElem_cons hp
      have hlr : ((bl s).drop p).length = s.size - p := by rw [List.length_drop, bl_size]
      have hwd := ref_word_is s (by omega) p h1 (k + 2) (by omega)
      have hnb := number_is s (by omega) p h1 (k + 1) (by omega)
      have hsg := signs_is s (by omega) p h1 (k + 1) (by omega)
      have hcm := comment s hs acc (runLen notNl ((bl s).drop p)) p (k + 1 - runLen notNl ((bl s).drop p)) h1 rfl
      have hrl := runLen_le notNl ((bl s).drop p)
      have hpl := pick_le ((bl s).drop p)
      rw [hlr] at hrl hpl
      rw [show k + 1 - runLen notNl ((bl s).drop p) + runLen notNl ((bl s).drop p) + 1 = k + 2 by omega] at hcm
      have happ : ∀ kind len : Nat, len ≠ 0 → pick ((bl s).drop p) = (kind, len) → isBlank (bl s)[p] = false → (bl s)[p] ≠ 35 →
          (if 0 ≤ (p : Int) then (if (p : Int) ≤ (wrap64 ((p : Int) + (len : Int))) then (if (wrap64 ((p : Int) + (len : Int))) ≤ (s.size : Int) then (if acc.length < 4398046511104 then (assayerref06_Read.l0 (k + 1) s (acc ++ [(⟨(kind : Int), s.extract (p : Int).toNat ((wrap64 ((p : Int) + (len : Int))) : Int).toNat, (p : Int)⟩ : S52)]) (wrap64 ((p : Int) + (len : Int)))) else (none)) else (none)) else (none)) else (none)) = some (told acc (lex p ((bl s).drop p))) := by
        intro kind len hlen hpick hb h35
        rw [hpick] at hpl
        simp only at hpl
        rw [wadd p len (by omega), if_pos (by omega), if_pos (by omega), if_pos (by omega), if_pos (by omega)]
        rw [ih (p + len) (k + 1) _ (by omega) (by omega) (by omega) (by simp; omega)]
        have e1 : lex p ((bl s).drop p) = cons' ⟨kind, ((bl s).drop p).take len, p⟩ (lex (p + len) ((bl s).drop (p + len))) := by
          have := lex_tok (p := p) (c := (bl s)[p]'hp) (r := (bl s).drop (p + 1)) hb h35 (by rw [← hd, hpick]; exact hlen)
          rw [← hd, hpick] at this
          rw [this, List.drop_drop]
        rw [e1, told_cons]
        congr 3
        simp only [enc]
        congr 3
        refine bl_inj ?_
        rw [bl_mk, Int.toNat_natCast, Int.toNat_natCast]
        show bl (s.extract p (p + len)) = _
        rw [bl_extract]
        simp [List.drop_take]
      generalize hc : (bl s)[p]'hp = c at hd happ
      have hbt : bt s (p : Int) = (c.toNat : Int) := by rw [bt_bl s p hp, hc]
      have hl0 : assayerref06_Read.l0 (k + 4) s acc (p : Int) = assayerref06_Read.j1 (k + 3) s acc (p : Int) (c.toNat : Int) (isBlank c) := first_l0 s acc p (k + 3) c hp hbt
      rw [hl0, assayerref06_Read.j1]
      by_cases hb : isBlank c = true
      · rw [if_pos hb, wnext p (by omega), ih (p + 1) (k + 2) acc (by omega) (by omega) (by omega) (by omega), hd, lex_blank hb]
      · rw [if_neg hb]
        replace hb : isBlank c = false := by simpa using hb
        by_cases hh : (c.toNat : Int) = 35
        · rw [if_pos hh]
          have hc35 : c = 35 := (eq35 c).1 hh
          subst hc35
          have hm : runLen notNl ((bl s).drop p) = runLen notNl ((bl s).drop (p + 1)) + 1 := by rw [hd]; rfl
          rw [hcm, ih (p + runLen notNl ((bl s).drop p)) _ acc (by omega) (by omega) (by omega) (by omega), hm, hd, lex_hash, List.drop_drop]
          congr 4; omega
        · rw [if_neg hh]
          have hc35 : c ≠ 35 := fun h => hh ((eq35 c).2 h)
          rw [hwd, Option.bind_some]
          by_cases hwl : wordLen ((bl s).drop p) = 0
          · rw [if_pos (show (wordLen ((bl s).drop p) : Int) = 0 by omega), hnb, Option.bind_some, assayerref06_Read.j3]
            by_cases hnl : numLen ((bl s).drop p) = 0
            · rw [if_pos (show (numLen ((bl s).drop p) : Int) = 0 by omega), hsg, Option.bind_some]
              by_cases hsl : signLen ((bl s).drop p) = 0
              · have hpk : (pick ((bl s).drop p)).2 = 0 := by simp [pick, hwl, hnl, hsl]
                rw [if_pos (show (signLen ((bl s).drop p) : Int) = 0 by omega), hd, lex_bad hb hc35 (by rw [← hd]; exact hpk)]
                rfl
              · rw [if_neg (show ¬ (signLen ((bl s).drop p) : Int) = 0 by omega)]
                exact happ 3 _ hsl (by simp [pick, hwl, hnl, Nat.pos_of_ne_zero hsl]) hb hc35
            · rw [if_neg (show ¬ (numLen ((bl s).drop p) : Int) = 0 by omega)]
              exact happ 2 _ hnl (by simp [pick, hwl, Nat.pos_of_ne_zero hnl]) hb hc35
          · rw [if_neg (show ¬ (wordLen ((bl s).drop p) : Int) = 0 by omega), assayerref06_Read.j3, if_neg (show ¬ (wordLen ((bl s).drop p) : Int) = 0 by omega)]
            exact happ 1 _ hwl (by simp [pick, Nat.pos_of_ne_zero hwl]) hb hc35
    · exact ih p k acc (by omega) h1 h2 h3
theorem ref_read_is (s : ByteArray) (hs : s.size ≤ 65536) (k : Nat) (hk : 4 * s.size + 30 < k) : assayerref06_Read.f k s = some (told [] (lex 0 (bl s))) := by
  unfold assayerref06_Read.f
  rw [if_neg (by omega)]
  have := read_l0 s hs s.size 0 k [] (by omega) (by omega) (by omega) (by simp)
  rw [List.drop_zero] at this
  exact this
theorem same_l0 (l : List S52) (hl : l.length ≤ 140737488355328) : ∀ (k i : Nat), i ≤ l.length → l.length - i < k → assayerlaw01_SameTokens.l0 k l l (i : Int) = some true := by
  intro k
  induction k with
  | zero => intro i h1 h2; omega
  | succ k ih =>
    intro i h1 h2
    simp only [assayerlaw01_SameTokens.l0]
    by_cases hi : i < l.length
    · have hw : wrap64 ((i : Int) + 1) = ((i + 1 : Nat) : Int) := by rw [w64 (by omega) (by omega)]; omega
      rw [if_pos (by omega), if_pos (by omega), if_pos (by omega), hw, ih (i + 1) (by omega) (by omega)]
      simp
    · rw [if_neg (by omega)]
theorem same_self (l : List S52) (hl : l.length ≤ 140737488355328) (k : Nat) (hk : l.length < k) : assayerlaw01_SameTokens.f k l l = some true := by
  unfold assayerlaw01_SameTokens.f
  rw [if_pos rfl]
  exact same_l0 l hl k 0 (by omega) (by omega)
theorem lex_length : ∀ (p : Nat) (r : L) (l : List Tok), lex p r = .ok l → l.length ≤ r.length := by
  refine lex_ind ?_ ?_ ?_ ?_ ?_
  · intro p l h
    rw [lex_nil] at h
    injection h with h
    subst h
    simp
  · intro p c r hb ih l h
    rw [lex_blank hb] at h
    have := ih l h
    simp; omega
  · intro p r ih l h
    rw [lex_hash] at h
    have := ih l h
    simp at this ⊢; omega
  · intro p c r hb hc h0 l h
    rw [lex_bad hb hc h0] at h
    cases h
  · intro p c r hb hc h0 ih l h
    rw [lex_tok hb hc h0] at h
    cases hx : lex (p + (pick (c :: r)).2) ((c :: r).drop (pick (c :: r)).2) with
    | error a => rw [hx] at h; cases h
    | ok l' =>
      rw [hx] at h
      injection h with h
      subst h
      have := ih l' hx
      have hp := pick_le (c :: r)
      simp only [List.length_drop, List.length_cons] at this hp ⊢
      omega
end Go.Proofs.YtgebfcdpbeaknaaGreatDoor.Rf
end

/-! #### ReadsAny -/
section
set_option linter.unusedVariables false
set_option linter.unusedSimpArgs false
namespace Go.Proofs.YtgebfcdpbeaknaaGreatDoor.Bk
open Go Go.RowKit Go.Proofs.YtgebfcdpbeaknaaGreatDoor.X Go.Proofs.YtgebfcdpbeaknaaGreatDoorW.PrintWords Go.Proofs.YtgebfcdpbeaknaaGreatDoorW.PrintLast Tk
theorem reads.any (s : ByteArray) (w : World) : Calls Tryz.prog 3 #[.string s] w fun e w' => e = .returned (.bool true) ∧ Below w.heap.size w w' := by
  by_cases h1 : s.size > 100000
  · exact reads.great s w h1
  · by_cases h2 : s.size > 65536
    · refine reads.small 1 s w [] [] 0 3 h1 ?_ ?_ (Rf.same_self [] (by simp) 1 (by simp)) (by simp)
      · unfold tokens_Read.f; rw [if_pos (by omega)]
      · unfold assayerref06_Read.f; rw [if_pos (by omega)]
    · have hr := Tg.read_is s (by omega) 1000000 (by omega)
      have hf := Rf.ref_read_is s (by omega) 1000000 (by omega)
      obtain ⟨l, n, e, he, hl⟩ : ∃ l n e, Tg.told [] (lex 0 (Tg.bl s)) = (l, n, e) ∧ l.length ≤ s.size := by
        refine ⟨_, _, _, rfl, ?_⟩
        cases h : lex 0 (Tg.bl s) with
        | error a => simp
        | ok l =>
          have := Rf.lex_length 0 (Tg.bl s) l h
          rw [Tg.bl_size] at this
          simpa using this
      rw [he] at hr hf
      exact reads.small 1000000 s w l l n e h1 hr hf (Rf.same_self l (by omega) 1000000 (by omega)) (by omega)
end Go.Proofs.YtgebfcdpbeaknaaGreatDoor.Bk
end
