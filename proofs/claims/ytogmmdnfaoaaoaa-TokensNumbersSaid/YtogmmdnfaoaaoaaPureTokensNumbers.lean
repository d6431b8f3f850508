/-
  Digits, alone or around a point, are one token, a number, however many they are; a word may stand right behind, a point may not. No condition.
-/
import Derived.Test.YtogmmdnfaoaaoaaX7
import Derived.Test.YtogmmdnfaoaaoaaTokLaw
import Derived.OpenShut
set_option linter.unusedVariables false
set_option linter.unusedSimpArgs false
namespace Go.Proofs.Ytogmmdnfaoaaoaa.Pure
open Go Go.RowKit Go.Proofs.Ytogmmdnfaoaaoaa.X Go.Proofs.YtogmmdnfaoaaoaaW.PrintWords Go.Proofs.YtogmmdnfaoaaoaaW.PrintLast Go.Proofs.Ytogmmdnfaoaaoaa.Tg Tk

def dset : ByteArray := ⟨#[48, 49, 50, 51, 52, 53, 54, 55, 56, 57]⟩
theorem dcut (i : Nat) (h : i < 10) : ∃ c, bl (dset.extract i (i + 1)) = [c] ∧ isDigit c = true := by
  match i, h with
  | 0, _ => exact ⟨48, by rw [bl_extract]; rfl, by decide⟩
  | 1, _ => exact ⟨49, by rw [bl_extract]; rfl, by decide⟩
  | 2, _ => exact ⟨50, by rw [bl_extract]; rfl, by decide⟩
  | 3, _ => exact ⟨51, by rw [bl_extract]; rfl, by decide⟩
  | 4, _ => exact ⟨52, by rw [bl_extract]; rfl, by decide⟩
  | 5, _ => exact ⟨53, by rw [bl_extract]; rfl, by decide⟩
  | 6, _ => exact ⟨54, by rw [bl_extract]; rfl, by decide⟩
  | 7, _ => exact ⟨55, by rw [bl_extract]; rfl, by decide⟩
  | 8, _ => exact ⟨56, by rw [bl_extract]; rfl, by decide⟩
  | 9, _ => exact ⟨57, by rw [bl_extract]; rfl, by decide⟩
/-- the tests behind the text -/
theorem numbers_end (s : ByteArray) (h : Numeral (bl s)) (hs : s.size ≤ 1000) (k : Nat) (hk : 2000 < k) (n : Int) (hn : n = (s.size : Int)) :
    ((tokens_Read.f k (s ++ (⟨#[120]⟩ : ByteArray))).bind fun b => ((tokens_Read.f k (s ++ (⟨#[46]⟩ : ByteArray))).bind fun d => ((assayerlaw06_alive.f k).bind fun t => (if t = true then (if b.2.2 = 0 then (if (b.1.length : Int) = 2 then (if 0 < (b.1.length : Int) then (if (((rd_T37 b.1 0).f0) == 2 && ((((rd_T37 b.1 0).f1).toList) == s.toList && (((rd_T37 b.1 0).f2) == 0))) = true then (if 1 < (b.1.length : Int) then (if ((rd_T37 b.1 1).f1).toList = ([120] : List UInt8) then (if ((rd_T37 b.1 1).f2) = n then (if d.2.2 = 4 then (some (d.2.1 == n)) else (some false)) else (some false)) else (some false)) else (none)) else (some false)) else (none)) else (some false)) else (some false)) else (some false))))) = some true := by
  subst hn
  have hz1 : (⟨#[120]⟩ : ByteArray).size = 1 := rfl
  have hz2 : (⟨#[46]⟩ : ByteArray).size = 1 := rfl
  have hb1 : bl (s ++ (⟨#[120]⟩ : ByteArray)) = bl s ++ [120] := by rw [bl_app]
  have hb2 : bl (s ++ (⟨#[46]⟩ : ByteArray)) = bl s ++ [46] := by rw [bl_app]
  rw [read_is _ (by rw [ByteArray.size_append, hz1]; omega) k (by rw [ByteArray.size_append, hz1]; omega), read_is _ (by rw [ByteArray.size_append, hz2]; omega) k (by rw [ByteArray.size_append, hz2]; omega), alive_is k (by omega), hb1, hb2, numeral_x h, numeral_point h]
  have e1 : told [] (.ok [⟨2, bl s, 0⟩, ⟨1, [120], (bl s).length⟩]) = ([⟨2, s, 0⟩, ⟨1, ⟨#[120]⟩, (s.size : Int)⟩], 0, 0) := by simp [told, enc, mk_bl, bl_size]
  have e2 : told [] (.error (bl s).length) = ([], (s.size : Int), 4) := rfl
  rw [e1, e2]
  simp only [Option.bind_some, if_true]
  have r0 : rd_T37 [(⟨2, s, 0⟩ : S37), ⟨1, ⟨#[120]⟩, (s.size : Int)⟩] 0 = ⟨2, s, 0⟩ := rfl
  have r1 : rd_T37 [(⟨2, s, 0⟩ : S37), ⟨1, ⟨#[120]⟩, (s.size : Int)⟩] 1 = ⟨1, ⟨#[120]⟩, (s.size : Int)⟩ := rfl
  rw [if_pos (by simp), if_pos (by simp), r0, r1, if_pos (by simp), if_pos (by simp), if_pos (by rw [ByteArray.toList_eq]), if_pos rfl]
  simp
theorem tmod_nat (n : Nat) : Int.tmod (n : Int) 10 = ((n % 10 : Nat) : Int) := by rw [Int.tmod_eq_emod_of_nonneg (by omega)]; omega
theorem tdiv_nat (n : Nat) : Int.tdiv (n : Int) 10 = ((n / 10 : Nat) : Int) := by rw [Int.tdiv_eq_ediv_of_nonneg (by omega)]; omega
theorem one_more (i : Nat) (h : i < 10) : (((i : Nat) : Int) + 1) % 4294967296 = ((i + 1 : Nat) : Int) := by omega
theorem lit_dset : (⟨#[48, 49, 50, 51, 52, 53, 54, 55, 56, 57]⟩ : ByteArray) = dset := rfl
theorem not_empty {s : ByteArray} (h : bl s ≠ []) : ¬ s.toList = [] := by rw [ByteArray.toList_eq]; exact h
theorem numbers_last (s t : ByteArray) (hd : digits (bl s)) (hs : s.size ≤ 100) (ht : digits (bl t)) (hts : t.size ≤ 100) (J : Nat) (hJ : 2000 < J) : assayerlaw06_TokensNumbers.l1 (J + 1) s t 0 = some true := by
  have hz : (⟨#[46]⟩ : ByteArray).size = 1 := rfl
  have hz2 : (s ++ (⟨#[46]⟩ : ByteArray)).size = s.size + 1 := by rw [ByteArray.size_append, hz]
  have hz3 : (s ++ (⟨#[46]⟩ : ByteArray) ++ t).size = s.size + 1 + t.size := by rw [ByteArray.size_append, hz2]
  simp only [assayerlaw06_TokensNumbers.l1]
  rw [if_neg (by decide), if_neg (not_empty ht.1), if_pos (by omega), if_pos (by omega), if_pos (by omega)]
  refine numbers_end (s ++ (⟨#[46]⟩ : ByteArray) ++ t) ?_ (by omega) J hJ _ (by omega)
  rw [bl_app, bl_app, show bl (⟨#[46]⟩ : ByteArray) = [46] from rfl, List.append_assoc]
  exact .two _ _ hd ht
theorem numbers_l1 (s : ByteArray) (hd : digits (bl s)) (hs : s.size ≤ 100) (K : Nat) (hK : 2000 < K) : ∀ (n : Nat) (t : ByteArray) (m : Nat), m < 10 ^ n → m < 4294967296 → (∀ c ∈ bl t, isDigit c = true) → t.size + n ≤ 50 → (n = 0 → bl t ≠ []) →
    assayerlaw06_TokensNumbers.l1 (K + n + 1) s t (m : Int) = some true := by
  intro n
  induction n with
  | zero =>
    intro t m h1 h2 h3 h4 h5
    have hm : m = 0 := by simpa using h1
    subst hm
    exact numbers_last s t hd hs ⟨h5 rfl, h3⟩ (by omega) K hK
  | succ n ih =>
    intro t m h1 h2 h3 h4 h5
    by_cases hend : m = 0 ∧ bl t ≠ []
    · obtain ⟨rfl, h6⟩ := hend
      exact numbers_last s t hd hs ⟨h6, h3⟩ (by omega) (K + (n + 1)) (by omega)
    rw [show K + (n + 1) + 1 = (K + n + 1) + 1 by omega]
    obtain ⟨J, hJ⟩ : ∃ J, J = K + n + 1 := ⟨_, rfl⟩
    rw [← hJ] at ih ⊢
    have hm10 : m % 10 < 10 := Nat.mod_lt _ (by decide)
    obtain ⟨c, hc1, hc2⟩ := dcut (m % 10) hm10
    have hsz : (dset.extract (m % 10) (m % 10 + 1)).size = 1 := by rw [← bl_size, hc1]; rfl
    have hnext : assayerlaw06_TokensNumbers.l1 J s (t ++ dset.extract (m % 10) (m % 10 + 1)) (((m / 10 : Nat) : Int) % 4294967296) = some true := by
      have hdiv : ((m / 10 : Nat) : Int) % 4294967296 = ((m / 10 : Nat) : Int) := by omega
      rw [hdiv]
      refine ih _ _ ?_ (by omega) ?_ ?_ ?_
      · rw [Nat.pow_succ] at h1; omega
      · intro x hx
        rw [bl_app, hc1] at hx
        rcases List.mem_append.1 hx with hx | hx
        · exact h3 x hx
        · simp at hx; rw [hx]; exact hc2
      · rw [ByteArray.size_append, hsz]; omega
      · intro _; rw [bl_app, hc1]; simp
    simp only [assayerlaw06_TokensNumbers.l1]
    rw [lit_dset, tmod_nat, tdiv_nat, one_more _ hm10, Int.toNat_natCast, Int.toNat_natCast, hsz, hnext]
    by_cases h0 : 0 < m
    · rw [if_pos (by omega), if_pos (by omega), if_pos (by omega), if_pos (by omega), if_pos (by omega)]
    · have he : bl t = [] := by
        by_cases he : bl t = []
        · exact he
        · exact absurd ⟨by omega, he⟩ hend
      rw [if_neg (by omega), if_pos (by rw [ByteArray.toList_eq]; exact he), if_pos (by omega), if_pos (by omega), if_pos (by omega), if_pos (by omega)]
theorem numbers_then (b : Nat) (hb : b < 4294967296) (point : Bool) (s : ByteArray) (hs : s.size ≤ 50) (hd : digits (bl s)) (J : Nat) (hJ : 3000 < J) : assayerlaw06_TokensNumbers.l0 (J + 1) (b : Int) point s 0 = some true := by
  simp only [assayerlaw06_TokensNumbers.l0]
  rw [if_neg (by decide), if_neg (not_empty hd.1)]
  cases point
  · have hz : (⟨#[46]⟩ : ByteArray).size = 1 := rfl
    rw [if_neg (by decide), if_pos (by omega)]
    exact numbers_end s (.one _ hd) (by omega) J (by omega) _ rfl
  · rw [if_pos rfl]
    have := numbers_l1 s hd (by omega) (J - 11) (by omega) 10 ⟨#[]⟩ b (by omega) hb (by intro c hc; cases hc) (by decide) (by intro h; cases h)
    rw [show J - 11 + 10 + 1 = J by omega] at this
    exact this
theorem numbers_l0 (b : Nat) (hb : b < 4294967296) (point : Bool) (K : Nat) (hK : 3000 < K) : ∀ (n : Nat) (s : ByteArray) (m : Nat), m < 10 ^ n → m < 4294967296 → (∀ c ∈ bl s, isDigit c = true) → s.size + n ≤ 50 → (n = 0 → bl s ≠ []) →
    assayerlaw06_TokensNumbers.l0 (K + n + 1) (b : Int) point s (m : Int) = some true := by
  intro n
  induction n with
  | zero =>
    intro s m h1 h2 h3 h4 h5
    have hm : m = 0 := by simpa using h1
    subst hm
    exact numbers_then b hb point s (by omega) ⟨h5 rfl, h3⟩ K hK
  | succ n ih =>
    intro s m h1 h2 h3 h4 h5
    by_cases hend : m = 0 ∧ bl s ≠ []
    · obtain ⟨rfl, h6⟩ := hend
      exact numbers_then b hb point s (by omega) ⟨h6, h3⟩ (K + (n + 1)) (by omega)
    rw [show K + (n + 1) + 1 = (K + n + 1) + 1 by omega]
    obtain ⟨J, hJ⟩ : ∃ J, J = K + n + 1 := ⟨_, rfl⟩
    rw [← hJ] at ih ⊢
    have hm10 : m % 10 < 10 := Nat.mod_lt _ (by decide)
    obtain ⟨c, hc1, hc2⟩ := dcut (m % 10) hm10
    have hsz : (dset.extract (m % 10) (m % 10 + 1)).size = 1 := by rw [← bl_size, hc1]; rfl
    have hnext : assayerlaw06_TokensNumbers.l0 J (b : Int) point (dset.extract (m % 10) (m % 10 + 1) ++ s) (((m / 10 : Nat) : Int) % 4294967296) = some true := by
      have hdiv : ((m / 10 : Nat) : Int) % 4294967296 = ((m / 10 : Nat) : Int) := by omega
      rw [hdiv]
      refine ih _ _ ?_ (by omega) ?_ ?_ ?_
      · rw [Nat.pow_succ] at h1; omega
      · intro x hx
        rw [bl_app, hc1] at hx
        rcases List.mem_append.1 hx with hx | hx
        · simp at hx; rw [hx]; exact hc2
        · exact h3 x hx
      · rw [ByteArray.size_append, hsz]; omega
      · intro _; rw [bl_app, hc1]; simp
    simp only [assayerlaw06_TokensNumbers.l0]
    rw [lit_dset, tmod_nat, tdiv_nat, one_more _ hm10, Int.toNat_natCast, Int.toNat_natCast, hsz, hnext]
    by_cases h0 : 0 < m
    · rw [if_pos (by omega), if_pos (by omega), if_pos (by omega), if_pos (by omega), if_pos (by omega)]
    · have he : bl s = [] := by
        by_cases he : bl s = []
        · exact he
        · exact absurd ⟨by omega, he⟩ hend
      rw [if_neg (by omega), if_pos (by rw [ByteArray.toList_eq]; exact he), if_pos (by omega), if_pos (by omega), if_pos (by omega), if_pos (by omega)]
theorem TokensNumbers : assayerlaw06_TokensNumbers.Pure := by
  intro a b point ha hb
  have ha := bounds_u32 ha
  have hb := bounds_u32 hb
  obtain ⟨n, rfl⟩ := Int.eq_ofNat_of_zero_le ha.1
  obtain ⟨m, rfl⟩ := Int.eq_ofNat_of_zero_le hb.1
  refine ⟨5000 + 10 + 1, ?_⟩
  unfold assayerlaw06_TokensNumbers.f
  exact numbers_l0 m (by omega) point 5000 (by decide) 10 ⟨#[]⟩ n (by omega) (by omega) (by intro c hc; cases hc) (by decide) (by intro h; cases h)
end Go.Proofs.Ytogmmdnfaoaaoaa.Pure
