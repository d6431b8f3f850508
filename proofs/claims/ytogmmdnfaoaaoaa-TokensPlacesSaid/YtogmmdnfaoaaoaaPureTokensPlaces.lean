/-
  Each token of any text stands in it at its place, behind the one ahead of it, and between them stand blanks and comments alone. No condition.
-/
import Derived.Test.YtogmmdnfaoaaoaaX8
import Derived.Test.YtogmmdnfaoaaoaaTokLaw
set_option linter.unusedVariables false
set_option linter.unusedSimpArgs false
namespace Go.Proofs.Ytogmmdnfaoaaoaa.Pure
open Go Go.RowKit Go.Proofs.Ytogmmdnfaoaaoaa.X Go.Proofs.YtogmmdnfaoaaoaaW.PrintWords Go.Proofs.YtogmmdnfaoaaoaaW.PrintLast Go.Proofs.Ytogmmdnfaoaaoaa.Tg Tk

theorem u8_eq (c : UInt8) (n : Nat) (h : n < 256) : ((c.toNat : Int) = (n : Int)) ↔ c = UInt8.ofNat n := by
  constructor
  · intro e; exact UInt8.toNat_inj.1 (by rw [UInt8.toNat_ofNat_of_lt' (by simpa using h)]; omega)
  · rintro rfl; rw [UInt8.toNat_ofNat_of_lt' (by simpa using h)]
theorem gap_l1 (s : ByteArray) (hs : s.size ≤ 65536) (L : List S37) (f i : Int) (to_ : Nat) (hto : to_ ≤ s.size) (J : Nat) : ∀ (m : Nat) (b : Bool) (j : Nat), j + m = to_ → (gap b (((bl s).drop j).take m)).isSome = true →
    ∃ b', assayerlaw06_TokensPlaces.l1 (J + m) s L 0 f i (to_ : Int) b (j : Int) = assayerlaw06_TokensPlaces.l1 J s L 0 f i (to_ : Int) b' (to_ : Int) := by
  intro m
  induction m with
  | zero => intro b j h1 h2; rw [show j = to_ by omega]; exact ⟨b, rfl⟩
  | succ m ih =>
    intro b j h1 h2
    have hl : j < (bl s).length := by rw [bl_size]; omega
    have hd : (bl s).drop j = (bl s)[j] :: (bl s).drop (j + 1) := List.drop_eq_getElem_cons hl
    rw [show J + (m + 1) = (J + m) + 1 by omega]
    obtain ⟨K, hK⟩ : ∃ K, K = J + m := ⟨_, rfl⟩
    rw [← hK] at ih ⊢
    simp only [assayerlaw06_TokensPlaces.l1]
    rw [if_pos (by omega), if_pos (by omega), if_pos (by omega), bt_bl s j (by omega), w64 (by omega) (by omega)]
    rw [hd, List.take_succ_cons] at h2
    generalize (bl s)[j] = c at h2 ⊢
    simp only [gap] at h2
    have e10 : ((c.toNat : Int) = 10) ↔ c = 10 := u8_eq c 10 (by decide)
    have e35 : ((c.toNat : Int) = 35) ↔ c = 35 := u8_eq c 35 (by decide)
    have e32 : ((c.toNat : Int) = 32) ↔ c = 32 := u8_eq c 32 (by decide)
    have e9 : ((c.toNat : Int) = 9) ↔ c = 9 := u8_eq c 9 (by decide)
    have e13 : ((c.toNat : Int) = 13) ↔ c = 13 := u8_eq c 13 (by decide)
    have hj : ((j : Int) + 1) = ((j + 1 : Nat) : Int) := by omega
    rw [hj]
    by_cases c10 : c = 10
    · rw [if_pos c10] at h2
      rw [if_pos (e10.2 c10)]
      exact ih false (j + 1) (by omega) h2
    · rw [if_neg c10] at h2
      rw [if_neg (fun h => c10 (e10.1 h))]
      cases b
      · rw [if_neg (by decide)] at h2 ⊢
        by_cases c35 : c = 35
        · rw [if_pos c35] at h2
          rw [if_pos (e35.2 c35)]
          have : ((c.toNat : Int) == 35) = true := by rw [beq_iff_eq]; exact e35.2 c35
          rw [this]
          exact ih true (j + 1) (by omega) h2
        · rw [if_neg c35] at h2
          rw [if_neg (fun h => c35 (e35.1 h))]
          have : ((c.toNat : Int) == 35) = false := by rw [beq_eq_false_iff_ne]; exact fun h => c35 (e35.1 h)
          rw [this]
          by_cases hb : c = 32 ∨ c = 9 ∨ c = 13
          · rw [if_pos hb] at h2
            obtain ⟨b', hb'⟩ := ih false (j + 1) (by omega) h2
            refine ⟨b', ?_⟩
            rw [hb']
            by_cases c32 : c = 32
            · rw [if_pos (e32.2 c32)]
            · rw [if_neg (fun h => c32 (e32.1 h))]
              by_cases c9 : c = 9
              · rw [if_pos (e9.2 c9)]
              · rw [if_neg (fun h => c9 (e9.1 h)), if_pos (e13.2 (by rcases hb with h | h | h <;> simp_all))]
          · rw [if_neg hb] at h2
            cases h2
      · rw [if_pos rfl] at h2 ⊢
        exact ih true (j + 1) (by omega) h2
theorem places_l0 (s : ByteArray) (hs : s.size ≤ 65536) (L : List S37) (hL : L.length ≤ 65536) : ∀ (q : Nat) (r : List UInt8) (l : List Tok), Tk.Good q r l → ∀ (k i : Nat), q ≤ s.size → r = (bl s).drop q → i ≤ L.length → L.drop i = l.map enc → (s.size - q) + 4 * l.length + 8 < k →
    assayerlaw06_TokensPlaces.l0 k s L 0 (q : Int) (i : Int) = some true := by
  intro q r l hg
  induction hg with
  | last p r h =>
    intro k i h1 h2 hi h3 h4
    have hil : i = L.length := by have := congrArg List.length h3; simp at this; omega
    obtain ⟨k, rfl⟩ : ∃ m, k = (m + 1 + 1 + (s.size - p)) + 1 + 1 := ⟨k - (s.size - p) - 4, by omega⟩
    simp only [assayerlaw06_TokensPlaces.l0, assayerlaw06_TokensPlaces.j2]
    rw [if_pos (by omega), if_neg (by omega)]
    obtain ⟨b', hb'⟩ := gap_l1 s hs L (p : Int) (i : Int) s.size (Nat.le_refl _) (k + 1 + 1) (s.size - p) false p (by omega) (by
      rw [← h2, List.take_of_length_le (by rw [h2, List.length_drop, bl_size]; omega)]; exact h)
    rw [hb']
    simp only [assayerlaw06_TokensPlaces.l1]
    rw [if_neg (by omega), if_neg (by omega), w64 (by omega) (by omega)]
    simp only [assayerlaw06_TokensPlaces.l0]
    rw [if_neg (by omega)]
    rfl
  | more p r n t l h1 h2 h3 h4 h5 h6 _ ih =>
    intro k i hq hr hi hd hk
    have hil : i < L.length := by have := congrArg List.length hd; simp at this; omega
    have hrl : r.length = s.size - p := by rw [hr, List.length_drop, bl_size]
    have hLi : L[i] = enc t := by
      have := List.drop_eq_getElem_cons hil
      rw [hd, List.map_cons] at this
      injection this with h _
      exact h.symm
    have htl : 0 < t.text.length := List.length_pos_iff.2 h4
    obtain ⟨k, rfl⟩ : ∃ m, k = (m + 1 + n) + 1 + 1 := ⟨k - n - 3, by simp only [List.length_cons] at hk; omega⟩
    have hf1 : (enc t).f1.size = t.text.length := by rw [← bl_size, enc, bl_mk]
    have hf1l : (enc t).f1.toList = t.text := by rw [ByteArray.toList_eq]; exact bl_mk _
    have hf2 : (enc t).f2 = ((p + n : Nat) : Int) := by rw [← h1]; rfl
    have hf0 : (enc t).f0 = (t.kind : Int) := rfl
    simp only [assayerlaw06_TokensPlaces.l0, assayerlaw06_TokensPlaces.j2]
    rw [if_pos (by omega), if_pos (by omega), if_pos (by omega), rdT_nat _ _ hil, hLi, hf1, hf1l, hf2, hf0, w64 (x := (s.size : Int) - _) (by omega) (by omega), w64 (x := ((p + n : Nat) : Int) + _) (by omega) (by omega), if_neg (by omega), if_neg h4, if_neg (by omega), if_pos (by omega), if_pos (by omega), if_pos (by omega)]
    have hcut : (s.extract ((p + n : Nat) : Int).toNat (((p + n : Nat) : Int) + (t.text.length : Int)).toNat).toList = t.text := by
      rw [ByteArray.toList_eq]
      show bl _ = _
      rw [Int.toNat_natCast, show (((p + n : Nat) : Int) + (t.text.length : Int)).toNat = p + n + t.text.length by omega, bl_extract, show p + n + t.text.length - (p + n) = t.text.length by omega, ← List.drop_drop, ← hr]
      exact h5
    rw [if_pos hcut, if_neg (by omega), if_neg (by omega)]
    obtain ⟨b', hb'⟩ := gap_l1 s hs L (p : Int) (i : Int) (p + n) (by omega) (k + 1) n false p rfl (by rw [← hr]; exact h3)
    rw [hb']
    simp only [assayerlaw06_TokensPlaces.l1]
    rw [if_neg (by omega), if_pos (by omega), if_pos (by omega), rdT_nat _ _ hil, hLi, hf1, w64 (by omega) (by omega), w64 (by omega) (by omega)]
    have hc : (((p + n : Nat) : Int) + (t.text.length : Int)) = ((p + n + t.text.length : Nat) : Int) := by omega
    have hc2 : ((i : Int) + 1) = ((i + 1 : Nat) : Int) := by omega
    rw [hc, hc2]
    refine ih k (i + 1) (by omega) ?_ (by omega) ?_ ?_
    · rw [hr, List.drop_drop]; congr 1; omega
    · rw [← List.drop_drop, hd]; rfl
    · simp only [List.length_cons] at hk; omega
theorem good_len : ∀ (q : Nat) (r : List UInt8) (l : List Tok), Tk.Good q r l → l.length ≤ r.length := by
  intro q r l h
  induction h with
  | last => simp
  | more p r n t l h1 h2 h3 h4 h5 h6 _ ih =>
    have := List.length_pos_iff.2 h4
    simp only [List.length_cons, List.length_drop] at *
    omega
theorem TokensPlaces : assayerlaw06_TokensPlaces.Pure := by
  intro s hs
  refine ⟨500000, ?_⟩
  unfold assayerlaw06_TokensPlaces.f
  rw [alive_is _ (by decide)]
  simp only [Option.bind_some, if_true]
  rw [show (500000 : Nat) = 499999 + 1 from rfl]
  simp only [assayerlaw06_TokensPlaces.j0]
  by_cases h : (s.size : Int) > 65536
  · rw [decide_eq_true h, if_pos rfl, alive_is _ (by decide)]
    rfl
  · rw [decide_eq_false h, if_neg (by decide), read_is s (by omega) 499999 (by omega)]
    simp only [Option.bind_some]
    match hx : lex 0 (bl s) with
    | .error a =>
      have := lex_error 0 (bl s) a hx
      rw [bl_size] at this
      rw [show told [] (Except.error a) = ([], (a : Int), 4) from rfl]
      dsimp only
      rw [if_neg (by decide), if_pos rfl, if_pos (by omega), if_pos (by omega)]
      rfl
    | .ok l =>
      have hg := lex_good 0 (bl s) l hx
      have hl := good_len _ _ _ hg
      rw [bl_size] at hl
      rw [show told [] (Except.ok l) = (l.map enc, 0, 0) from rfl]
      dsimp only
      rw [if_pos rfl]
      exact places_l0 s (by omega) (l.map enc) (by simp; omega) 0 (bl s) l hg 499999 0 (by omega) rfl (by omega) rfl (by omega)
end Go.Proofs.Ytogmmdnfaoaaoaa.Pure
