/-
  The program's tokens are those of the list of bytes.
-/
import Derived.Test.YtogmmdnfaoaaoaaX3
import Derived.Test.YtogmmdnfaoaaoaaTok
import Derived.Lib.IndexLaws
set_option linter.unusedVariables false
set_option linter.unusedSimpArgs false
namespace Go.Proofs.Ytogmmdnfaoaaoaa.Tg
open Go Go.RowKit Go.Proofs.Ytogmmdnfaoaaoaa.X Go.Proofs.YtogmmdnfaoaaoaaW.PrintWords Go.Proofs.YtogmmdnfaoaaoaaW.PrintLast Tk

abbrev bl (s : ByteArray) : List UInt8 := s.data.toList
theorem bl_size (s : ByteArray) : (bl s).length = s.size := rfl
theorem bl_extract (s : ByteArray) (a b : Nat) : bl (s.extract a b) = ((bl s).drop a).take (b - a) := by simp [bl]
theorem bl_from (s : ByteArray) (a : Nat) : bl (s.extract a s.size) = (bl s).drop a := by
  rw [bl_extract, List.take_of_length_le (by simp)]
theorem bl_to (s : ByteArray) (b : Nat) : bl (s.extract 0 b) = (bl s).take b := by rw [bl_extract]; simp
theorem bl_app (s t : ByteArray) : bl (s ++ t) = bl s ++ bl t := by simp [bl]
theorem bl_inj {a b : ByteArray} (h : bl a = bl b) : a = b := by
  cases a; cases b; simp [bl] at h; rw [h]
theorem bl_mk (l : List UInt8) : bl ⟨l.toArray⟩ = l := by simp [bl]
theorem mk_bl (s : ByteArray) : (⟨(bl s).toArray⟩ : ByteArray) = s := by simp [bl]
theorem size_extract_from (s : ByteArray) (a : Nat) : (s.extract a s.size).size = s.size - a := by
  rw [← bl_size, bl_from, List.length_drop, bl_size]
theorem bt_bl (s : ByteArray) (i : Nat) (h : i < s.size) : bt s (i : Int) = (((bl s)[i]'(by simpa using h)).toNat : Int) := by
  unfold bt
  rw [dif_pos (by simpa using h)]
  rfl
theorem w64 {x : Int} (h1 : -9223372036854775808 ≤ x) (h2 : x ≤ 9223372036854775807) : wrap64 x = x := by unfold wrap64; omega
theorem u8_all {P : UInt8 → Bool} (h : (List.range 256).all (fun n => P (UInt8.ofNat n)) = true) (c : UInt8) : P c = true := by
  have hc := c.toNat_lt
  have := List.all_eq_true.1 h c.toNat (by simp; omega)
  simpa using this

/-! ### runs -/
def ascii (set : ByteArray) : Prop := ∀ c ∈ bl set, c.toNat < 128
theorem drop_cons' {α : Type} (l : List α) (i : Nat) (h : i < l.length) : l.drop i = l[i] :: l.drop (i + 1) := List.drop_eq_getElem_cons h
theorem mem_any (set : ByteArray) (c : Int) (ha : ascii set) (b : Nat) : ∀ pos acc, set.size ≤ pos + b → tokens_cutLeft.mem set c b pos acc = (acc || ((bl set).drop pos).any (fun d => c == (d.toNat : Int))) := by
  induction b with
  | zero =>
    intro pos acc h
    rw [List.drop_of_length_le (by rw [bl_size]; omega)]
    simp [tokens_cutLeft.mem]
  | succ b ih =>
    intro pos acc h
    unfold tokens_cutLeft.mem
    by_cases hp : pos < set.size
    · have hl : pos < (bl set).length := hp
      have hd := decode_ascii set pos hp (ha _ (List.getElem_mem hl))
      rw [if_pos hp, hd, ih (pos + 1) _ (by omega), drop_cons' (bl set) pos hl, List.any_cons, Bool.or_assoc]
      rfl
    · rw [if_neg hp, List.drop_of_length_le (by rw [bl_size]; omega)]
      simp
def inSet (set : ByteArray) (c : UInt8) : Bool := (bl set).any (fun d => (c.toNat : Int) == (d.toNat : Int))
theorem go_run (s set : ByteArray) (ha : ascii set) (b : Nat) : ∀ pos, s.size ≤ pos + b → bl (tokens_cutLeft.go s set b pos) = ((bl s).drop pos).drop (runLen (inSet set) ((bl s).drop pos)) := by
  induction b with
  | zero =>
    intro pos h
    rw [List.drop_of_length_le (l := bl s) (by rw [bl_size]; omega)]
    rfl
  | succ b ih =>
    intro pos h
    unfold tokens_cutLeft.go
    by_cases hp : pos < s.size
    · have hl : pos < (bl s).length := hp
      rw [if_pos hp, mem_any set _ ha _ _ _ (by omega)]
      simp only [Bool.false_or, List.drop_zero]
      rw [drop_cons' (bl s) pos hl]
      by_cases hc : ((bl s)[pos]).toNat < 128
      · rw [decode_ascii s pos hp hc]
        simp only [runLen]
        change bl (if inSet set (bl s)[pos] = true then _ else _) = _
        by_cases hm : inSet set (bl s)[pos] = true
        · rw [if_pos hm, if_pos hm, ih (pos + 1) (by omega), List.drop_succ_cons]
        · rw [if_neg hm, if_neg hm, bl_from, drop_cons' (bl s) pos hl, List.drop_zero]
      · have hh := (decode_high s pos hp (by have : ((bl s)[pos]).toNat = (s[pos]'hp).toNat := rfl; omega)).1
        have h1 : ((bl set).any fun d => ((Utf8.decode s pos).1 : Int) == (d.toNat : Int)) = false := by
          rw [List.any_eq_false]
          intro d hd
          have := ha d hd
          simp only [beq_iff_eq]; omega
        have h2 : inSet set (bl s)[pos] = false := by
          unfold inSet
          rw [List.any_eq_false]
          intro d hd
          have := ha d hd
          simp only [beq_iff_eq]; omega
        rw [h1, if_neg (by decide), bl_from, drop_cons' (bl s) pos hl]
        simp only [runLen, h2, Bool.false_eq_true, if_false, List.drop_zero]
    · rw [if_neg hp, List.drop_of_length_le (l := bl s) (by rw [bl_size]; omega)]
      rfl
theorem run_is (s set : ByteArray) (ha : ascii set) (hs : s.size ≤ 140737488355328) (p : UInt8 → Bool) (hp : ∀ c, inSet set c = p c) : tokens_run.f s set = some (runLen p (bl s) : Int) := by
  have h := go_run s set ha s.size 0 (by omega)
  obtain rfl : inSet set = p := funext hp
  have hl := runLen_le (inSet set) (bl s)
  have h2 : (tokens_cutLeft.go s set s.size 0).size = s.size - runLen (inSet set) (bl s) := by
    rw [← bl_size, h]; simp
  rw [bl_size] at hl
  simp only [tokens_run.f, tokens_cutLeft.f, Option.bind_some, h2]
  congr 1
  rw [w64] <;> omega
theorem ascii_of {l : List UInt8} (h : l.all (fun c => c.toNat < 128) = true) : ascii ⟨l.toArray⟩ := by
  intro c hc
  rw [bl_mk] at hc
  simpa using List.all_eq_true.1 h c hc
theorem run_digits (s : ByteArray) (hs : s.size ≤ 140737488355328) : tokens_run.f s ⟨#[48, 49, 50, 51, 52, 53, 54, 55, 56, 57]⟩ = some (runLen isDigit (bl s) : Int) :=
  run_is s _ (ascii_of (l := [48, 49, 50, 51, 52, 53, 54, 55, 56, 57]) (by decide)) hs _ (fun c => by simpa using u8_all (P := fun c => inSet ⟨#[48, 49, 50, 51, 52, 53, 54, 55, 56, 57]⟩ c == isDigit c) (by decide +kernel) c)
theorem run_blanks (s : ByteArray) (hs : s.size ≤ 140737488355328) : tokens_run.f s ⟨#[32, 9, 10, 13]⟩ = some (runLen isBlank (bl s) : Int) :=
  run_is s _ (ascii_of (l := [32, 9, 10, 13]) (by decide)) hs _ (fun c => by simpa using u8_all (P := fun c => inSet ⟨#[32, 9, 10, 13]⟩ c == isBlank c) (by decide +kernel) c)
theorem run_letters (s : ByteArray) (hs : s.size ≤ 140737488355328) : tokens_run.f s ⟨#[97, 98, 99, 100, 101, 102, 103, 104, 105, 106, 107, 108, 109, 110, 111, 112, 113, 114, 115, 116, 117, 118, 119, 120, 121, 122, 65, 66, 67, 68, 69, 70, 71, 72, 73, 74, 75, 76, 77, 78, 79, 80, 81, 82, 83, 84, 85, 86, 87, 88, 89, 90]⟩ = some (runLen isLetter (bl s) : Int) :=
  run_is s _ (ascii_of (l := [97, 98, 99, 100, 101, 102, 103, 104, 105, 106, 107, 108, 109, 110, 111, 112, 113, 114, 115, 116, 117, 118, 119, 120, 121, 122, 65, 66, 67, 68, 69, 70, 71, 72, 73, 74, 75, 76, 77, 78, 79, 80, 81, 82, 83, 84, 85, 86, 87, 88, 89, 90]) (by decide)) hs _ (fun c => by simpa using u8_all (P := fun c => inSet ⟨#[97, 98, 99, 100, 101, 102, 103, 104, 105, 106, 107, 108, 109, 110, 111, 112, 113, 114, 115, 116, 117, 118, 119, 120, 121, 122, 65, 66, 67, 68, 69, 70, 71, 72, 73, 74, 75, 76, 77, 78, 79, 80, 81, 82, 83, 84, 85, 86, 87, 88, 89, 90]⟩ c == isLetter c) (by decide +kernel) c)
theorem run_words (s : ByteArray) (hs : s.size ≤ 140737488355328) : tokens_run.f s ⟨#[97, 98, 99, 100, 101, 102, 103, 104, 105, 106, 107, 108, 109, 110, 111, 112, 113, 114, 115, 116, 117, 118, 119, 120, 121, 122, 65, 66, 67, 68, 69, 70, 71, 72, 73, 74, 75, 76, 77, 78, 79, 80, 81, 82, 83, 84, 85, 86, 87, 88, 89, 90, 48, 49, 50, 51, 52, 53, 54, 55, 56, 57, 95]⟩ = some (runLen isWordc (bl s) : Int) :=
  run_is s _ (ascii_of (l := [97, 98, 99, 100, 101, 102, 103, 104, 105, 106, 107, 108, 109, 110, 111, 112, 113, 114, 115, 116, 117, 118, 119, 120, 121, 122, 65, 66, 67, 68, 69, 70, 71, 72, 73, 74, 75, 76, 77, 78, 79, 80, 81, 82, 83, 84, 85, 86, 87, 88, 89, 90, 48, 49, 50, 51, 52, 53, 54, 55, 56, 57, 95]) (by decide)) hs _ (fun c => by simpa using u8_all (P := fun c => inSet ⟨#[97, 98, 99, 100, 101, 102, 103, 104, 105, 106, 107, 108, 109, 110, 111, 112, 113, 114, 115, 116, 117, 118, 119, 120, 121, 122, 65, 66, 67, 68, 69, 70, 71, 72, 73, 74, 75, 76, 77, 78, 79, 80, 81, 82, 83, 84, 85, 86, 87, 88, 89, 90, 48, 49, 50, 51, 52, 53, 54, 55, 56, 57, 95]⟩ c == isWordc c) (by decide +kernel) c)

/-! ### words, numbers, signs -/
theorem word_is (s : ByteArray) (hs : s.size ≤ 140737488355328) (h0 : 0 < s.size) : tokens_word.f s = some (wordLen (bl s) : Int) := by
  have h1 : (s.extract 0 1).size ≤ 140737488355328 := by rw [← bl_size, bl_to]; simp; omega
  unfold tokens_word.f
  rw [if_pos (by omega), if_pos (by omega), run_letters _ h1, run_words _ hs]
  simp only [Option.bind_some]
  rw [bl_to]
  match hb : bl s, (show 0 < (bl s).length from h0) with
  | c :: r, _ =>
    simp only [List.take_succ_cons, List.take_zero, runLen, wordLen]
    by_cases hc : isLetter c = true
    · have : isWordc c = true := by simp [isWordc, hc]
      simp [hc, this]
    · simp [hc]
theorem has_prefix (s t : ByteArray) : stringslite_HasPrefix.f s t = some (decide ((bl s).take t.size = bl t)) := by
  unfold stringslite_HasPrefix.f
  by_cases h : (s.size : Int) ≥ (t.size : Int)
  · rw [if_pos h, if_pos (by omega), if_pos (by omega), ByteArray.toList_eq, ByteArray.toList_eq]
    congr 1
    show (bl (s.extract 0 _) == bl t) = _
    rw [bl_to, Bool.eq_iff_iff]
    simp
  · rw [if_neg h]
    congr 1
    symm
    rw [decide_eq_false_iff_not]
    intro he
    have := congrArg List.length he
    simp only [List.length_take, bl_size] at this
    omega
theorem cut_point (r : ByteArray) : strings_CutPrefix.f r ⟨#[46]⟩ = match bl r with | 46 :: q => some (⟨q.toArray⟩, true) | _ => some (r, false) := by
  have hz : (⟨#[46]⟩ : ByteArray).size = 1 := rfl
  have hb : bl ⟨#[46]⟩ = [46] := rfl
  unfold strings_CutPrefix.f stringslite_CutPrefix.f
  rw [has_prefix, hz, hb]
  simp only [Option.bind_some]
  have hs := bl_size r
  match hr : bl r with
  | [] => simp
  | c :: q =>
    rw [hr] at hs
    simp only [List.length_cons] at hs
    by_cases hc : c = 46
    · subst hc
      have hd : decide (List.take 1 ((46 : UInt8) :: q) = [46]) = true := by simp
      rw [hd]
      simp only [if_true]
      rw [if_pos (by decide), if_pos (by omega)]
      simp only [Option.bind_some]
      have : r.extract ((1 : Nat) : Int).toNat r.size = ⟨q.toArray⟩ := bl_inj (by rw [bl_from, hr, bl_mk]; rfl)
      rw [this]
    · have hd : decide (List.take 1 (c :: q) = [46]) = false := by simp [hc]
      rw [hd]
      simp only [Bool.false_eq_true, if_false, Option.bind_some]
      split
      · rename_i he; injection he with he _; exact absurd he hc
      · rfl
theorem tail_is (s : ByteArray) (n : Nat) (hn : 0 < n) (hs : s.size ≤ 140737488355328) (hl : n ≤ s.size) :
    ((strings_CutPrefix.f (s.extract n s.size) ⟨#[46]⟩).bind fun b => if b.2 = true then (if (n : Int) > 0 then ((tokens_run.f b.1 ⟨#[48, 49, 50, 51, 52, 53, 54, 55, 56, 57]⟩).bind fun t => if t > 0 then ((tokens_run.f b.1 ⟨#[48, 49, 50, 51, 52, 53, 54, 55, 56, 57]⟩).bind fun u => some (wrap64 ((n : Int) + wrap64 (1 + u)))) else some (n : Int)) else some (n : Int)) else some (n : Int)) = some ((n + tailLen ((bl s).drop n) : Nat) : Int) := by
  have hb : bl (s.extract n s.size) = (bl s).drop n := bl_from s n
  have hlen : ((bl s).drop n).length = s.size - n := by rw [List.length_drop, bl_size]
  rw [cut_point, hb]
  match hr : (bl s).drop n with
  | [] => simp [tailLen]
  | c :: r =>
    rw [hr] at hlen
    simp only [List.length_cons] at hlen
    by_cases hc : c = 46
    · subst hc
      have hqs : (⟨r.toArray⟩ : ByteArray).size ≤ 140737488355328 := by rw [← bl_size, bl_mk]; omega
      have hrl := runLen_le isDigit r
      simp only [Option.bind_some, if_true]
      rw [if_pos (by omega), run_digits _ hqs, bl_mk]
      simp only [Option.bind_some, tailLen]
      by_cases h0 : 0 < runLen isDigit r
      · rw [if_pos (by omega), if_pos h0, w64 (x := 1 + _) (by omega) (by omega), w64 (by omega) (by omega)]
        congr 1; omega
      · rw [if_neg (by omega), if_neg h0]; rfl
    · have ht : tailLen (c :: r) = 0 := by
        unfold tailLen
        split
        · rename_i he; injection he with he _; exact absurd he hc
        · rfl
      rw [ht]
      split
      · rename_i he; injection he with he _; exact absurd he hc
      · simp
theorem number_is (s : ByteArray) (hs : s.size ≤ 140737488355328) : tokens_number.f s = some (numLen (bl s) : Int) := by
  have hl := runLen_le isDigit (bl s)
  rw [bl_size] at hl
  unfold tokens_number.f numLen
  rw [run_digits s hs]
  simp only [Option.bind_some]
  rw [if_pos (by omega), if_pos (by omega)]
  by_cases h0 : 0 < runLen isDigit (bl s)
  · rw [if_pos h0]
    have := tail_is s (runLen isDigit (bl s)) h0 hs hl
    rw [Int.toNat_natCast]
    exact this
  · have h1 : runLen isDigit (bl s) = 0 := by omega
    rw [if_neg h0, h1, cut_point]
    split <;> simp
theorem two_is (s : ByteArray) (c : UInt8) : decide ((bl s).take 2 = [c, 61]) = match bl s with | a :: b :: _ => a == c && b == 61 | _ => false := by
  match bl s with
  | [] => simp
  | [a] => simp
  | a :: b :: r => rw [Bool.eq_iff_iff]; simp
theorem indexByte_mem (l : List UInt8) (c : UInt8) : (Lib.indexByte l c ≥ 0) ↔ l.contains c = true := by
  induction l with
  | nil => simp [Lib.indexByte]
  | cons a l ih =>
    have hge := Lib.indexByte_ge l c
    simp only [Lib.indexByte, List.contains_cons]
    by_cases h : a = c
    · subst h; simp
    · have h' : (c == a) = false := by simpa using fun e => h e.symm
      rw [if_neg (by simpa using h), h', Bool.false_or, ← ih]
      split
      · rename_i h2; rw [beq_iff_eq] at h2; rw [h2]
      · rename_i h2; rw [beq_iff_eq] at h2; omega
theorem sign_is (k : Nat) (s : ByteArray) (h0 : 0 < s.size) : tokens_sign.f (k + 1) s = some (signLen (bl s) : Int) := by
  have hz1 : (⟨#[60, 61]⟩ : ByteArray).size = 2 := rfl
  have hz2 : (⟨#[62, 61]⟩ : ByteArray).size = 2 := rfl
  have hb1 : bl ⟨#[60, 61]⟩ = [60, 61] := rfl
  have hb2 : bl ⟨#[62, 61]⟩ = [62, 61] := rfl
  have hj : ∀ b : Bool, tokens_sign.j0 (k + 1) s b = some (if b = true then 2 else match bl s with | [] => 0 | c :: _ => if signs.contains c then 1 else 0) := by
    intro b
    cases b
    · simp only [tokens_sign.j0, strings_IndexByte.f, Option.bind_some]
      rw [if_neg (by decide), if_pos (by omega), show bt s 0 = _ from bt_bl s 0 h0]
      match hb : bl s, (show 0 < (bl s).length from h0) with
      | c :: r, _ =>
        have hm := indexByte_mem signs c
        change (if Lib.indexByte signs _ ≥ 0 then _ else _) = _
        rw [show ((((c :: r)[0]).toNat : Int).toNat.toUInt8) = c by simp]
        by_cases h : signs.contains c = true
        · rw [if_pos (hm.2 h)]; simp only [h, if_true]; rfl
        · have h' : signs.contains c = false := by simpa using h
          rw [if_neg (fun e => h (hm.1 e))]; simp only [h']; rfl
    · simp [tokens_sign.j0]
  unfold tokens_sign.f strings_HasPrefix.f
  rw [has_prefix, has_prefix, hz1, hz2, hb1, hb2, two_is, two_is]
  simp only [Option.bind_some, hj]
  unfold signLen
  match bl s with
  | [] => simp [two]
  | [a] => simp [two]; split <;> rfl
  | a :: b :: r =>
    simp only [two]
    by_cases h1 : a = 60 <;> by_cases h2 : a = 62 <;> by_cases h3 : b = 61 <;> simp_all <;> split <;> rfl
theorem pick_is (k : Nat) (s : ByteArray) (hs : s.size ≤ 140737488355328) (h0 : 0 < s.size) : tokens_Read.pick (k + 1) s = some (((pick (bl s)).1 : Int), ((pick (bl s)).2 : Int)) := by
  unfold tokens_Read.pick pick
  rw [word_is s hs h0, number_is s hs, sign_is k s h0]
  simp only [Option.bind_some]
  repeat' split
  all_goals (first | rfl | omega)

/-! ### the reader -/
def enc (t : Tok) : S37 := ⟨(t.kind : Int), ⟨t.text.toArray⟩, (t.pos : Int)⟩
def told (acc : List S37) : Except Nat (List Tok) → List S37 × Int × Int
  | .ok l => (acc ++ l.map enc, 0, 0)
  | .error a => ([], (a : Int), 4)
theorem lex_blanks (p : Nat) (r : L) : lex p r = lex (p + runLen isBlank r) (r.drop (runLen isBlank r)) := by
  induction r generalizing p with
  | nil => rfl
  | cons c r ih =>
    by_cases hc : isBlank c = true
    · simp only [runLen, hc, if_true, List.drop_succ_cons]
      rw [lex_blank hc, ih (p + 1)]
      congr 1; omega
    · simp only [runLen, hc]; rfl
theorem cut_line (r : ByteArray) (hs : r.size ≤ 65536) : ∃ x y, strings_Cut.f r ⟨#[10]⟩ = some (x, y) ∧ x.size = runLen notNl (bl r) := by
  have hz : ((⟨#[10]⟩ : ByteArray).size : Int) = 1 := rfl
  have hix : stringslite_Index.f r ⟨#[10]⟩ = some (Lib.indexByte (bl r) 10) := rfl
  unfold strings_Cut.f stringslite_Cut.f
  rw [hix, hz]
  simp only [Option.bind_some]
  have key : ∀ l : List UInt8, (Lib.indexByte l 10 = -1 ∧ runLen notNl l = l.length) ∨ (Lib.indexByte l 10 = (runLen notNl l : Int) ∧ runLen notNl l < l.length) := by
    intro l
    induction l with
    | nil => exact .inl ⟨rfl, rfl⟩
    | cons a l ih =>
      simp only [Lib.indexByte, runLen, List.length_cons]
      by_cases ha : a = 10
      · subst ha; right; simp [notNl]
      · have h1 : notNl a = true := by simp [notNl, ha]
        rw [if_neg (by simpa using ha), h1]
        simp only [if_true]
        rcases ih with ⟨h2, h3⟩ | ⟨h2, h3⟩
        · left; rw [h2]; exact ⟨rfl, by omega⟩
        · right; rw [if_neg (by simp; omega), h2]; exact ⟨by omega, by omega⟩
  rcases key (bl r) with ⟨h2, h3⟩ | ⟨h2, h3⟩
  · rw [h2, if_neg (by omega)]
    exact ⟨_, _, rfl, by rw [h3, bl_size]⟩
  · rw [bl_size] at h3
    rw [h2, if_pos (by omega), if_pos (by omega), if_pos (by omega), w64 (by omega) (by omega), if_pos (by omega), if_pos (by omega)]
    refine ⟨_, _, rfl, ?_⟩
    rw [← bl_size, bl_to, List.length_take, bl_size]
    omega
theorem told_cons (acc : List S37) (t : Tok) (x : Except Nat (List Tok)) : told acc (cons' t x) = told (acc ++ [enc t]) x := by
  cases x <;> simp [told, cons']
theorem l0_is (s : ByteArray) (hs : s.size ≤ 65536) : ∀ (k p : Nat) (acc : List S37), p ≤ s.size → s.size - p + 1 < k → acc.length ≤ p →
    tokens_Read.l0 k s acc (p : Int) = some (told acc (lex p ((bl s).drop p))) := by
  intro k
  induction k with
  | zero => intro p acc h1 h2; omega
  | succ k ih =>
    intro p acc h1 h2 h3
    by_cases hp : p < s.size
    · have hx : (s.extract (p : Int).toNat s.size).size = s.size - p := by rw [Int.toNat_natCast]; exact size_extract_from s p
      have hb : bl (s.extract (p : Int).toNat s.size) = (bl s).drop p := by rw [Int.toNat_natCast]; exact bl_from s p
      generalize hr : s.extract (p : Int).toNat s.size = rest at hx hb
      have hlr : ((bl s).drop p).length = s.size - p := by rw [← hb, bl_size, hx]
      simp only [tokens_Read.l0]
      rw [if_pos (by omega), if_pos (by omega), hr, run_blanks rest (by omega), hb]
      simp only [Option.bind_some]
      have hle := runLen_le isBlank ((bl s).drop p)
      rw [hlr] at hle
      by_cases hn : 0 < runLen isBlank ((bl s).drop p)
      · rw [if_pos (by omega), w64 (by omega) (by omega), lex_blanks p, List.drop_drop, ← Int.natCast_add]
        exact ih _ acc (by omega) (by omega) (by omega)
      · rw [if_neg (by omega), if_pos (by omega)]
        match hd : (bl s).drop p, hlr with
        | [], hlr => simp at hlr; omega
        | c :: r, hlr =>
          rw [hd] at hn hb
          have hcb : isBlank c = false := by
            by_cases hc : isBlank c = true
            · simp [runLen, hc] at hn
            · simpa using hc
          have hbt : bt rest 0 = (c.toNat : Int) := by
            have := bt_bl rest 0 (by omega)
            simp only [hb] at this
            exact this
          rw [hbt]
          by_cases hc : c = 35
          · subst hc
            rw [if_pos (by decide)]
            obtain ⟨x, y, hxy, hxs⟩ := cut_line rest (by omega)
            rw [hb] at hxs
            simp only [runLen, show notNl 35 = true by decide, if_true] at hxs
            have hrl := runLen_le notNl r
            simp only [List.length_cons] at hlr
            rw [hxy]
            simp only [Option.bind_some]
            rw [lex_hash, hxs, w64 (by omega) (by omega)]
            have hdr : r.drop (runLen notNl r) = (bl s).drop (p + (runLen notNl r + 1)) := by
              rw [← List.drop_drop, hd, List.drop_succ_cons]
            rw [hdr, ← Int.natCast_add]
            exact ih _ acc (by omega) (by omega) (by omega)
          · have hcn : ¬ ((c.toNat : Int) = 35) := by
              intro h
              exact hc (UInt8.toNat_inj.1 (by simpa using (by omega : c.toNat = 35)))
            obtain ⟨k', rfl⟩ : ∃ k', k = k' + 1 := ⟨k - 1, by omega⟩
            rw [if_neg hcn, pick_is k' rest (by omega) (by omega), hb]
            simp only [Option.bind_some]
            have hpl := pick_le (c :: r)
            rw [hlr] at hpl
            by_cases h0 : (pick (c :: r)).2 = 0
            · have h10 : (pick (c :: r)).1 = 0 := by
                unfold pick at h0 ⊢
                repeat' split
                all_goals simp_all
              rw [if_neg (by omega), lex_bad hcb hc h0]
              rfl
            · have h10 := pick_pos h0
              rw [if_pos (by omega), if_pos (by omega), if_pos (by omega), if_pos (by omega), lex_tok hcb hc h0, told_cons, w64 (by omega) (by omega), ← Int.natCast_add]
              have he : (⟨((pick (c :: r)).1 : Int), rest.extract 0 ((pick (c :: r)).2 : Int).toNat, (p : Int)⟩ : S37) = enc ⟨(pick (c :: r)).1, (c :: r).take (pick (c :: r)).2, p⟩ := by
                simp only [enc]
                congr 1
                exact bl_inj (by show bl _ = bl _; rw [Int.toNat_natCast, bl_to, hb, bl_mk])
              rw [he]
              have hdr : (c :: r).drop (pick (c :: r)).2 = (bl s).drop (p + (pick (c :: r)).2) := by
                rw [← List.drop_drop, hd]
              rw [hdr]
              exact ih _ _ (by omega) (by omega) (by simp; omega)
    · have hd : (bl s).drop p = [] := List.drop_of_length_le (by rw [bl_size]; omega)
      simp only [tokens_Read.l0]
      rw [if_neg (by omega), hd, lex_nil]
      simp [told]
/-- What Read tells of any text that is not too long, with rounds enough. -/
theorem read_is (s : ByteArray) (hs : s.size ≤ 65536) (k : Nat) (hk : s.size + 1 < k) : tokens_Read.f k s = some (told [] (lex 0 (bl s))) := by
  unfold tokens_Read.f
  rw [if_neg (by omega)]
  have := l0_is s hs k 0 [] (by omega) (by omega) (by simp)
  rw [List.drop_zero] at this
  exact this
end Go.Proofs.Ytogmmdnfaoaaoaa.Tg
