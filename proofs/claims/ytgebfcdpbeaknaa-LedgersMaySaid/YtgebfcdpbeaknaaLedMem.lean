/-
  The ledger in memory: its block, its map, its accounts.
-/
import Derived.Test.YtgebfcdpbeaknaaX10
import Derived.Test.YtgebfcdpbeaknaaMap
import Derived.Maps.RangeRun
set_option linter.unusedVariables false
set_option linter.unusedSimpArgs false
namespace Go.Proofs.Ytgebfcdpbeaknaa.Led
open Go Go.RowKit Go.Proofs.Ytgebfcdpbeaknaa.X Go.Proofs.YtgebfcdpbeaknaaW.PrintWords Go.Proofs.YtgebfcdpbeaknaaW.PrintLast Go.MapRaw Go.MapKept

abbrev Ten := S23
/-- the entries of the map of accounts, which lie at bs -/
def allE : List Nat → Nat → List MapEntry
  | [], _ => []
  | b :: l, i => ⟨.int .i64 (i : Int), .pointer (some ⟨b, 0, none⟩), i⟩ :: allE l (i + 1)
/-- the entries of the map of names -/
def namesE : List ByteArray → Nat → List MapEntry
  | [], _ => []
  | s :: l, i => ⟨.string s, .int .i64 1, i⟩ :: namesE l (i + 1)
theorem allE_snoc (b : Nat) : ∀ (l : List Nat) (i : Nat), allE (l ++ [b]) i = allE l i ++ [⟨.int .i64 ((i + l.length : Nat) : Int), .pointer (some ⟨b, 0, none⟩), i + l.length⟩]
  | [], i => by simp [allE]
  | c :: l, i => by simp [allE, allE_snoc b l (i + 1), Nat.add_assoc, Nat.add_comm 1]
theorem namesE_snoc (b : ByteArray) : ∀ (l : List ByteArray) (i : Nat), namesE (l ++ [b]) i = namesE l i ++ [⟨.string b, .int .i64 1, i + l.length⟩]
  | [], i => by simp [namesE]
  | c :: l, i => by simp [namesE, namesE_snoc b l (i + 1), Nat.add_assoc, Nat.add_comm 1]
theorem allE_len : ∀ (l : List Nat) (i : Nat), (allE l i).length = l.length
  | [], _ => rfl
  | b :: l, i => by simp [allE, allE_len l (i + 1)]
theorem allE_mem : ∀ (l : List Nat) (i : Nat) (e : MapEntry), e ∈ allE l i → ∃ j, ∃ h : j < l.length, e = ⟨.int .i64 ((i + j : Nat) : Int), .pointer (some ⟨l[j], 0, none⟩), i + j⟩
  | [], _, e, h => by simp [allE] at h
  | b :: l, i, e, h => by
    rcases List.mem_cons.1 h with rfl | h
    · exact ⟨0, by simp, rfl⟩
    · obtain ⟨j, hj, rfl⟩ := allE_mem l (i + 1) e h
      exact ⟨j + 1, by simpa using hj, by simp [Nat.add_assoc, Nat.add_comm 1]⟩
theorem allE_get : ∀ (l : List Nat) (i j : Nat) (h : j < l.length), (⟨.int .i64 ((i + j : Nat) : Int), .pointer (some ⟨l[j], 0, none⟩), i + j⟩ : MapEntry) ∈ allE l i
  | [], _, j, h => by simp at h
  | b :: l, i, 0, h => by simp [allE]
  | b :: l, i, j + 1, h => by
    have := allE_get l (i + 1) j (by simpa using h)
    simp only [allE, List.mem_cons]
    right
    simpa [Nat.add_assoc, Nat.add_comm 1] using this
theorem allE_born : ∀ (l : List Nat) (i : Nat), (allE l i).map (·.born) = List.range' i l.length
  | [], _ => rfl
  | b :: l, i => by simp [allE, allE_born l (i + 1), List.range'_succ]
theorem allE_nodup (l : List Nat) : ((allE l 0).map (·.born)).Nodup := by
  rw [allE_born]; exact List.nodup_range'
theorem allE_find (l : List Nat) : ∀ (i n : Nat) (k : Int), findE (.int .i64 k) (allE l i) n = if h : (i : Int) ≤ k ∧ k < ((i + l.length : Nat) : Int) then some (n + (k - i).toNat, .pointer (some ⟨l[(k - i).toNat]'(by omega), 0, none⟩)) else none := by
  induction l with
  | nil => intro i n k; simp [allE, findE]
  | cons b l ih =>
    intro i n k
    simp only [allE, findE]
    by_cases h : k = (i : Int)
    · subst h
      rw [if_pos rfl, dif_pos ⟨by omega, by simp; omega⟩]
      simp
    · rw [if_neg (by simpa using h), ih]
      by_cases h2 : (i : Int) ≤ k ∧ k < ((i + (b :: l).length : Nat) : Int)
      · have h3 : ((i + 1 : Nat) : Int) ≤ k ∧ k < ((i + 1 + l.length : Nat) : Int) := by simp at h2 ⊢; omega
        rw [dif_pos h3, dif_pos h2]
        have e : (k - (i : Int)).toNat = (k - ((i + 1 : Nat) : Int)).toNat + 1 := by omega
        simp only [e, List.getElem_cons_succ]
        simp; omega
      · have h3 : ¬ (((i + 1 : Nat) : Int) ≤ k ∧ k < ((i + 1 + l.length : Nat) : Int)) := by simp at h2 ⊢; omega
        rw [dif_neg h3, dif_neg h2]
theorem namesE_find (s : ByteArray) : ∀ (l : List ByteArray) (i n : Nat), s ∉ l → findE (.string s) (namesE l i) n = none
  | [], _, _, _ => rfl
  | b :: l, i, n, h => by
    have h1 : s ≠ b := fun e => h (by simp [e])
    simp only [namesE, findE]
    rw [if_neg (by simpa using h1)]
    exact namesE_find s l (i + 1) (n + 1) (fun e => h (List.mem_cons_of_mem _ e))
theorem namesE_found (s : ByteArray) : ∀ (l : List ByteArray) (i n : Nat), s ∈ l → ∃ j, findE (.string s) (namesE l i) n = some (j, .int .i64 1)
  | [], _, _, h => by simp at h
  | b :: l, i, n, h => by
    simp only [namesE, findE]
    by_cases e : s = b
    · subst e
      exact ⟨n, if_pos rfl⟩
    · rw [if_neg (by simpa using e)]
      exact namesE_found s l (i + 1) (n + 1) ((List.mem_cons.1 h).resolve_left e)
theorem allE_keys (l : List Nat) (i : Nat) (d : TypeDesc) (hd : ∀ k : Int, IsKey d (.int .i64 k)) : ∀ x ∈ allE l i, IsKey d x.key := fun x hx => by
  obtain ⟨j, hj, rfl⟩ := allE_mem l i x hx
  exact hd _
theorem namesE_keys (d : TypeDesc) (hd : ∀ s : ByteArray, IsKey d (.string s)) : ∀ (l : List ByteArray) (i : Nat), ∀ x ∈ namesE l i, IsKey d x.key
  | [], _, x, h => by simp [namesE] at h
  | b :: l, i, x, h => by
    rcases List.mem_cons.1 h with rfl | h
    · exact hd _
    · exact namesE_keys d hd l (i + 1) x h
/-- the accounts of tenants ts, with what is left, lie at bs, all of them from base on -/
structure Accs (base : Nat) (w : World) (ts : List Ten) (ls : List Int) (bs : List Nat) : Prop where
  len : bs.length = ts.length
  lenl : ls.length = ts.length
  nodup : bs.Nodup
  low : ∀ i (h : i < bs.length), base ≤ bs[i]
  at_ : ∀ i (h : i < ts.length) (h1 : i < bs.length) (h2 : i < ls.length), w.heap[bs[i]]? = some (.cells #[.string ts[i].f0, .string ts[i].f1, .int .i64 ts[i].f2, .int .i64 ls[i]] 47 (0, 0))
/-- a ledger lies at p: block pb, its map at mb -/
structure LedAt (base : Nat) (w : World) (pb mb : Nat) (ts : List Ten) (ls : List Int) (bs : List Nat) : Prop where
  accs : Accs base w ts ls bs
  lowp : base ≤ pb
  lowm : base ≤ mb
  ptr : w.heap[pb]? = some (.cells #[.map (some mb)] 49 (0, 0))
  map : w.heap[mb]? = some (.map (allE bs 0).toArray bs.length)
end Go.Proofs.Ytgebfcdpbeaknaa.Led
