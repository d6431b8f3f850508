/-
  The tokens of any text, with any of five blanks between each two, are the tokens again, at other places. No condition.
-/
import Derived.Test.YtogmmdnfaoaaoaaX4
import Derived.Test.YtogmmdnfaoaaoaaTokLaw
import Derived.OpenShut
set_option linter.unusedVariables false
set_option linter.unusedSimpArgs false
namespace Go.Proofs.Ytogmmdnfaoaaoaa.Pure
open Go Go.RowKit Go.Proofs.Ytogmmdnfaoaaoaa.X Go.Proofs.YtogmmdnfaoaaoaaW.PrintWords Go.Proofs.YtogmmdnfaoaaoaaW.PrintLast Go.Proofs.Ytogmmdnfaoaaoaa.Tg Tk

theorem again_l0 (b : ByteArray) (hbs : b.size ≤ 5) (k : Nat) (l : List Tok) : ∀ (A : List S37) (s : ByteArray) (M : List Tok), s.size + textLen l + l.length * b.size ≤ 65536 → A.length + l.length ≤ 65536 →
    lex 0 (bl s ++ cat (bl b) l) = .ok M → M.map enc = A ++ (spread (bl b) s.size l).map enc → 200000 < k →
    assayerlaw06_TokensAgain.l0 (k + l.length + 1) (A ++ l.map enc) b s (A.length : Int) = some true := by
  induction l with
  | nil =>
    intro A s M h1 h2 h3 h4 hk
    simp only [List.length_nil, Nat.add_zero, assayerlaw06_TokensAgain.l0]
    simp only [List.map_nil, List.append_nil, cat, spread] at h3 h4 ⊢
    simp only [textLen, List.length_nil] at h1
    rw [if_neg (by omega), read_is s (by omega) k (by omega), h3]
    rw [show told [] (Except.ok M) = (M.map enc, 0, 0) from rfl]
    simp only [Option.bind_some]
    rw [if_pos trivial, h4]
    simp only [List.length_nil, Nat.add_zero] at h2
    obtain ⟨r, h5, h6⟩ := same_is A A (by omega) k (by omega)
    rw [h5, h6.2 rfl]
    rfl
  | cons t l ih =>
    intro A s M h1 h2 h3 h4 hk
    simp only [textLen, List.length_cons, Nat.add_mul, Nat.one_mul] at h1 h2
    rw [show k + (t :: l).length + 1 = (k + l.length + 1) + 1 by simp; omega]
    obtain ⟨K, hK⟩ : ∃ K, K = k + l.length + 1 := ⟨_, rfl⟩
    rw [← hK] at ih ⊢
    simp only [assayerlaw06_TokensAgain.l0]
    have hlen : A.length < (A ++ (t :: l).map enc).length := by simp
    rw [if_pos (by simp; omega), if_pos (by omega)]
    simp only [Option.bind_some]
    have hrd : rd_T37 (A ++ (t :: l).map enc) (A.length : Int) = enc t := by
      rw [rdT_nat _ _ hlen]
      simp
    have hset : (A ++ (t :: l).map enc).set (A.length : Int).toNat (⟨(enc t).f0, (enc t).f1, (s.size : Int)⟩ : S37) = (A ++ [enc ⟨t.kind, t.text, s.size⟩]) ++ l.map enc := by
      rw [Int.toNat_natCast]
      simp [enc]
    rw [hrd, hset]
    have hrd2 : rd_T37 ((A ++ [enc ⟨t.kind, t.text, s.size⟩]) ++ l.map enc) (A.length : Int) = enc ⟨t.kind, t.text, s.size⟩ := by
      rw [rdT_nat _ _ (by simp)]
      simp
    rw [hrd2]
    have hf : (enc ⟨t.kind, t.text, s.size⟩).f1.size = t.text.length := by rw [← bl_size, enc, bl_mk]
    have hfb : bl (enc ⟨t.kind, t.text, s.size⟩).f1 = t.text := bl_mk _
    have hs2 : (s ++ (enc ⟨t.kind, t.text, s.size⟩).f1).size = s.size + t.text.length := by rw [← bl_size, bl_app, List.length_append, bl_size, hfb]
    have hs3 : (s ++ (enc ⟨t.kind, t.text, s.size⟩).f1 ++ b).size = s.size + t.text.length + b.size := by rw [← bl_size, bl_app, List.length_append, bl_size, hs2, bl_size]
    rw [if_pos (by omega), if_pos (by omega), w64 (by omega) (by omega)]
    rw [show ((A.length : Int) + 1) = (((A ++ [enc ⟨t.kind, t.text, s.size⟩]).length : Nat) : Int) by simp]
    refine ih (A ++ [enc ⟨t.kind, t.text, s.size⟩]) _ M ?_ ?_ ?_ ?_ hk
    · rw [hs3]; omega
    · simp; omega
    · rw [bl_app, bl_app, hfb]
      simpa [cat] using h3
    · rw [h4, hs3]
      simp [spread, bl_size]
theorem TokensAgain : assayerlaw06_TokensAgain.Pure := by
  intro s how hs hw
  refine ⟨300000, ?_⟩
  unfold assayerlaw06_TokensAgain.f
  rw [alive_is _ (by decide)]
  simp only [Option.bind_some, if_true]
  rw [show (300000 : Nat) = 299999 + 1 from rfl]
  simp only [assayerlaw06_TokensAgain.j0]
  by_cases h : (s.size : Int) > 5000
  · rw [decide_eq_true h, if_pos rfl, alive_is _ (by decide)]
    rfl
  · rw [decide_eq_false h, if_neg (by decide), read_is s (by omega) 299999 (by omega)]
    simp only [Option.bind_some]
    match hx : lex 0 (bl s) with
    | .error a => rfl
    | .ok l =>
      rw [show told [] (Except.ok l) = (l.map enc, 0, 0) from rfl]
      dsimp only
      rw [if_pos rfl]
      have hwf : 0 ≤ how ∧ how ≤ 255 := by simpa using bounds_u8 hw
      obtain ⟨n, rfl⟩ := Int.eq_ofNat_of_zero_le hwf.1
      have hm : Int.tmod (n : Int) 5 = ((n % 5 : Nat) : Int) := by rw [Int.tmod_eq_emod_of_nonneg (by omega)]; omega
      have hm5 : n % 5 < 5 := Nat.mod_lt _ (by decide)
      rw [hm]
      generalize n % 5 = i at hm5
      have hl := good_text _ _ _ (lex_good 0 (bl s) l hx)
      rw [bl_size] at hl
      have hsol := lex_solid 0 (bl s) l hx
      have key : ∀ b : ByteArray, b.size ≤ 5 → (∃ c0 b', bl b = c0 :: b' ∧ stops c0) → (∀ q x, lex q (bl b ++ x) = lex (q + (bl b).length) x) → assayerlaw06_TokensAgain.l0 299999 (l.map enc) b ⟨#[]⟩ 0 = some true := by
        intro b hb ⟨c0, b', h1, h2⟩ h3
        have hsp := lex_spread (bl b) c0 b' h1 h2 h3 l 0 hsol
        have hmul : l.length * b.size ≤ l.length * 5 := Nat.mul_le_mul_left _ hb
        have := again_l0 b hb (299998 - l.length) l [] ⟨#[]⟩ (spread (bl b) 0 l) (by rw [show (⟨#[]⟩ : ByteArray).size = 0 from rfl]; omega) (by rw [List.length_nil]; omega) (by rw [show bl ⟨#[]⟩ = [] from rfl, List.nil_append]; exact hsp) (by rfl) (by omega)
        rw [show 299998 - l.length + l.length + 1 = 299999 by omega] at this
        exact this
      rw [if_pos (by omega), if_pos (by simp; omega), rdOf_nat _ _ _ (by simpa using hm5)]
      match i, hm5 with
      | 0, _ => exact key ⟨#[32]⟩ (by decide) ⟨32, [], rfl, stops_blank (by decide)⟩ (skip_blank (c := 32) (by decide))
      | 1, _ => exact key ⟨#[9]⟩ (by decide) ⟨9, [], rfl, stops_blank (by decide)⟩ (skip_blank (c := 9) (by decide))
      | 2, _ => exact key ⟨#[10]⟩ (by decide) ⟨10, [], rfl, stops_blank (by decide)⟩ (skip_blank (c := 10) (by decide))
      | 3, _ => exact key ⟨#[13]⟩ (by decide) ⟨13, [], rfl, stops_blank (by decide)⟩ (skip_blank (c := 13) (by decide))
      | 4, _ => exact key ⟨#[32, 35, 32, 120, 10]⟩ (by decide) ⟨32, _, rfl, stops_blank (by decide)⟩ skip_line
end Go.Proofs.Ytogmmdnfaoaaoaa.Pure
