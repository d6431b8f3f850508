-- Laid by wip/gen.py (a program of this session) over the kit's print.py, with hand-proved contracts among its functions. Not trusted: Lean checks it.
import Derived.Test.YtgebfcdpbeaknaaX0
namespace Go.Proofs.Ytgebfcdpbeaknaa.X
open Go.RowKit Go.Proofs.YtgebfcdpbeaknaaW.PrintWords Go.Proofs.YtgebfcdpbeaknaaW.PrintLast Go.Proofs.YtgebfcdpbeaknaaW.PrintMore
attribute [local go_sem] max2_int min2_int max_two min_two max_three min_three max_four min_four   -- for this text's walks alone
set_option linter.unusedVariables false
set_option linter.unusedSimpArgs false

/-! ### tokens_cutLeft: function 22 -/
-- by hand: tokens_cutLeft.tpl
def tokens_cutLeft.mem (set : ByteArray) (c : Int) : Nat → Nat → Bool → Bool
  | 0, _, acc => acc
  | b + 1, pos, acc => if pos < set.size then tokens_cutLeft.mem set c b (pos + (Utf8.decode set pos).2) (acc || (c == ((Utf8.decode set pos).1 : Int))) else acc
def tokens_cutLeft.go (s set : ByteArray) : Nat → Nat → ByteArray
  | 0, _ => ⟨#[]⟩
  | b + 1, pos => if pos < s.size then (if tokens_cutLeft.mem set ((Utf8.decode s pos).1 : Int) set.size 0 false = true then tokens_cutLeft.go s set b (pos + (Utf8.decode s pos).2) else s.extract pos s.size) else ⟨#[]⟩
def tokens_cutLeft.f (a0 a1 : ByteArray) : Option (ByteArray) := some (tokens_cutLeft.go a0 a1 a0.size 0)
theorem tokens_cutLeft.width (s : ByteArray) (pos : Nat) (h : pos < s.size) : 1 ≤ (Utf8.decode s pos).2 := by
  by_cases ha : (s[pos]'h).toNat < 128
  · rw [decode_ascii s pos h ha]
    exact Nat.le_refl _
  · exact (decode_high s pos h (by omega)).2
theorem tokens_cutLeft.mem_end (set : ByteArray) (c : Int) (b pos : Nat) (acc : Bool) (h : ¬ pos < set.size) : tokens_cutLeft.mem set c b pos acc = acc := by
  cases b with
  | zero => rfl
  | succ b => simp [tokens_cutLeft.mem, h]
theorem tokens_cutLeft.go_end (s set : ByteArray) (b pos : Nat) (h : ¬ pos < s.size) : tokens_cutLeft.go s set b pos = ⟨#[]⟩ := by
  cases b with
  | zero => rfl
  | succ b => simp [tokens_cutLeft.go, h]
set_option maxHeartbeats 4000000 in
set_option maxRecDepth 100000 in
theorem tokens_cutLeft.calls (a0 a1 : ByteArray) (r : ByteArray) (w : World) (h : tokens_cutLeft.f a0 a1 = some r) :
    Calls Try.prog 22 #[.string a0, .string a1] w fun e w' => e = .returned (.string r) ∧ Below w.heap.size w w' := by
  have h := Option.some.inj h
  have H := Aside0.mk h
  clear h
  go_enter Try.func22, Try.ntmps22
  go_wp2
  go_loopw [5, 6, 7, 9] (fun _ _ _ _ wr => ∃ (pos b : Nat), wr.heap[w.heap.size]? = some (.stringIter a0 pos) ∧ Aside0 (tokens_cutLeft.go a0 a1 b pos = r) ∧ a0.size ≤ pos + b ∧ Below w.heap.size w wr) (fun _ _ _ _ wr => a0.size - wr.iterPos w.heap.size)
  case atStart => exact ⟨0, a0.size, World.iter_heap w a0 0, H, by omega, (Below.refl _ _).alloc (Nat.le_refl _) _⟩
  case round =>
    obtain ⟨pos, b, hk, hc, hb, hB⟩ := hrel
    have hip : wr.iterPos w.heap.size = pos := iterPos_of hk
    by_cases hp : pos < a0.size
    · have hnx : ∀ ty, (Instr.next (.pointer (some ⟨w.heap.size, 0, none⟩)) true ty).run Try.prog wr = _ := fun ty => Lib.run_next_any_at wr w.heap.size a0 pos ty hk hp
      have hwd := tokens_cutLeft.width a0 pos hp
      have HIP := Aside0.mk hip
      clear hip
      go_wp2
      obtain ⟨W1, hW1⟩ : ∃ W1, W1 = wr.iterAt w.heap.size a0 (pos + (Utf8.decode a0 pos).2) := ⟨_, rfl⟩
      rw [← hW1]
      have hB1 : Below w.heap.size w W1 := by rw [hW1]; exact Lib.below_iterAt hB (Nat.le_refl _) _ _
      have hk1 : W1.heap[w.heap.size]? = some (.stringIter a0 (pos + (Utf8.decode a0 pos).2)) := by rw [hW1]; exact Lib.iterAt_heap _ _ _ _ _ hk
      have hlt1 : w.heap.size < W1.heap.size := (Array.getElem?_eq_some_iff.1 hk1).1
      clear hW1 hk hB
      cases b with
      | zero => omega
      | succ b =>
      have hc2 := hc.out
      clear hc
      simp only [tokens_cutLeft.go, hp, if_true] at hc2
      have HC := Aside0.mk hc2
      clear hc2
      go_loopw [7, 9] (fun acc _ wi => ∃ (q d : Nat) (x : Bool), acc = .bool x ∧ wi.heap[W1.heap.size]? = some (.stringIter a1 q) ∧ wi.heap[w.heap.size]? = some (.stringIter a0 (pos + (Utf8.decode a0 pos).2)) ∧ Aside0 (tokens_cutLeft.mem a1 ((Utf8.decode a0 pos).1 : Int) d q x = tokens_cutLeft.mem a1 ((Utf8.decode a0 pos).1 : Int) a1.size 0 false) ∧ a1.size ≤ q + d ∧ Below w.heap.size w wi) (fun _ _ wi => a1.size - wi.iterPos W1.heap.size)
      case atStart => exact ⟨0, a1.size, false, rfl, World.iter_heap W1 a1 0, by rw [World.iter, World.alloc]; simpa [Array.getElem?_push, Nat.ne_of_lt hlt1] using hk1, ⟨rfl⟩, by omega, hB1.alloc hB1.size _⟩
      case round =>
        obtain ⟨q, d, x, rfl, hkq, hk0, HM, hd, hBi⟩ := hrel
        have hiq := Aside0.mk (iterPos_of hkq)
        by_cases hq : q < a1.size
        · have hnx : ∀ ty, (Instr.next (.pointer (some ⟨W1.heap.size, 0, none⟩)) true ty).run Try.prog wr = _ := fun ty => Lib.run_next_any_at wr W1.heap.size a1 q ty hkq hq
          have hwq := tokens_cutLeft.width a1 q hq
          have hkn := Aside0.mk (Lib.iterAt_heap wr W1.heap.size a1 q (q + (Utf8.decode a1 q).2) hkq)
          have hkm := Aside0.mk ((Lib.iterAt_other wr W1.heap.size w.heap.size a1 (q + (Utf8.decode a1 q).2) (Nat.ne_of_lt hlt1)).trans hk0)
          cases d with
          | zero => omega
          | succ d =>
          have hm := HM.out
          simp only [tokens_cutLeft.mem, hq, if_true] at hm
          have HM2 := Aside0.mk hm
          clear HM hm
          cases x
          all_goals
            go_wp2
            go_roundw
            case rel => exact ⟨_, d, _, rfl, hkn.out, hkm.out, ⟨by have := HM2.out; simpa using this⟩, by omega, Lib.below_iterAt hBi (Nat.le_of_lt hlt1) _ _⟩
            case measure => rw [iterPos_of hkn.out, hiq.out]; omega
        · have hnx : ∀ ty, (Instr.next (.pointer (some ⟨W1.heap.size, 0, none⟩)) true ty).run Try.prog wr = _ := fun ty => Lib.run_next_end_at wr W1.heap.size a1 q ty hkq hq
          have hm := HM.out
          rw [tokens_cutLeft.mem_end a1 _ d q x hq] at hm
          have h2 := HC.out
          rw [← hm] at h2
          have H2 := Aside0.mk h2
          clear HM hm HC h2
          cases x
          · go_wp2
            go_ret
            exact ⟨by rw [← H2.out]; simp, hBi⟩
          · go_wp2
            go_roundw
            case rel => exact ⟨_, b, hk0, ⟨by have := H2.out; simpa using this⟩, by omega, hBi⟩
            case measure => rw [iterPos_of hk0, HIP.out]; omega
    · have hnx : ∀ ty, (Instr.next (.pointer (some ⟨w.heap.size, 0, none⟩)) true ty).run Try.prog wr = _ := fun ty => Lib.run_next_end_at wr w.heap.size a0 pos ty hk hp
      have h2 := hc.out
      rw [tokens_cutLeft.go_end a0 a1 b pos hp] at h2
      clear hc
      subst h2
      go_wp2
      go_ret
      exact ⟨rfl, hB⟩

end Go.Proofs.Ytgebfcdpbeaknaa.X
