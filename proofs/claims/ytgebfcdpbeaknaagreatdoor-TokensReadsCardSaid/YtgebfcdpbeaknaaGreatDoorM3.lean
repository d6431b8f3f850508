/-
  Texts of ours, packed (wip/merge.py): X4, X5, X6, X7, X8, X9, X10, X11, X12, X13, X14, X15, X16, X17.
-/
import Derived.Test.YtgebfcdpbeaknaaGreatDoorM0
import Derived.Test.YtgebfcdpbeaknaaGreatDoorM2
/-! #### X4 -/
section

namespace Go.Proofs.YtgebfcdpbeaknaaGreatDoor.X
open Go.RowKit Go.Proofs.YtgebfcdpbeaknaaGreatDoorW.PrintWords Go.Proofs.YtgebfcdpbeaknaaGreatDoorW.PrintLast Go.Proofs.YtgebfcdpbeaknaaGreatDoorW.PrintMore
attribute [local go_sem] max2_int min2_int max_two min_two max_three min_three max_four min_four   -- for this text's walks alone
set_option linter.unusedVariables false
set_option linter.unusedSimpArgs false

/-! ### tokens_word: function 9 -/
def tokens_word.f (a0 : ByteArray) : Option (Int) := if 0 ≤ 1 then (if 1 ≤ (a0.size : Int) then ((tokens_run.f (a0.extract 0 1) (⟨#[97, 98, 99, 100, 101, 102, 103, 104, 105, 106, 107, 108, 109, 110, 111, 112, 113, 114, 115, 116, 117, 118, 119, 120, 121, 122, 65, 66, 67, 68, 69, 70, 71, 72, 73, 74, 75, 76, 77, 78, 79, 80, 81, 82, 83, 84, 85, 86, 87, 88, 89, 90]⟩ : ByteArray)).bind fun t102 => (if t102 = 0 then (some 0) else ((tokens_run.f a0 (⟨#[97, 98, 99, 100, 101, 102, 103, 104, 105, 106, 107, 108, 109, 110, 111, 112, 113, 114, 115, 116, 117, 118, 119, 120, 121, 122, 65, 66, 67, 68, 69, 70, 71, 72, 73, 74, 75, 76, 77, 78, 79, 80, 81, 82, 83, 84, 85, 86, 87, 88, 89, 90, 48, 49, 50, 51, 52, 53, 54, 55, 56, 57, 95]⟩ : ByteArray)).bind fun t103 => (some t103)))) else (none)) else (none)
set_option maxHeartbeats 8000000 in
set_option maxRecDepth 100000 in
theorem tokens_word.calls (a0 : ByteArray) (r : Int) (w : World) (h : tokens_word.f a0 = some r) :
    Calls Tryz.prog 9 #[.string a0] w fun e w' => e = .returned (.int .i64 r) ∧ Below w.heap.size w w' := by
  have HB := Aside0.mk (Below.refl w.heap.size w)
  have H : (if 0 ≤ 1 then (if 1 ≤ (a0.size : Int) then ((tokens_run.f (a0.extract 0 1) (⟨#[97, 98, 99, 100, 101, 102, 103, 104, 105, 106, 107, 108, 109, 110, 111, 112, 113, 114, 115, 116, 117, 118, 119, 120, 121, 122, 65, 66, 67, 68, 69, 70, 71, 72, 73, 74, 75, 76, 77, 78, 79, 80, 81, 82, 83, 84, 85, 86, 87, 88, 89, 90]⟩ : ByteArray)).bind fun t102 => (if t102 = 0 then (some 0) else ((tokens_run.f a0 (⟨#[97, 98, 99, 100, 101, 102, 103, 104, 105, 106, 107, 108, 109, 110, 111, 112, 113, 114, 115, 116, 117, 118, 119, 120, 121, 122, 65, 66, 67, 68, 69, 70, 71, 72, 73, 74, 75, 76, 77, 78, 79, 80, 81, 82, 83, 84, 85, 86, 87, 88, 89, 90, 48, 49, 50, 51, 52, 53, 54, 55, 56, 57, 95]⟩ : ByteArray)).bind fun t103 => (some t103)))) else (none)) else (none)) = some r := h
  clear h
  by_cases c2 : 0 ≤ 1
  · rw [if_pos c2] at H
    have c2b0 := eq_true c2
    have c2b1 : decide (0 ≤ 1) = true := decide_eq_true c2
    clear c2
    by_cases c3 : 1 ≤ (a0.size : Int)
    · rw [if_pos c3] at H
      have c3b0 := eq_true c3
      have c3b1 : decide (1 ≤ (a0.size : Int)) = true := decide_eq_true c3
      clear c3
      replace H := Option.bind_eq_some_iff.mp H
      obtain ⟨t102, A40, H⟩ := H
      replace H : (if t102 = 0 then (some 0) else ((tokens_run.f a0 (⟨#[97, 98, 99, 100, 101, 102, 103, 104, 105, 106, 107, 108, 109, 110, 111, 112, 113, 114, 115, 116, 117, 118, 119, 120, 121, 122, 65, 66, 67, 68, 69, 70, 71, 72, 73, 74, 75, 76, 77, 78, 79, 80, 81, 82, 83, 84, 85, 86, 87, 88, 89, 90, 48, 49, 50, 51, 52, 53, 54, 55, 56, 57, 95]⟩ : ByteArray)).bind fun t103 => (some t103))) = some r := H
      have A4 := Aside0.mk A40
      clear A40
      by_cases c5 : t102 = 0
      · rw [if_pos c5] at H
        have c5b0 : (t102 == 0) = true := beq_iff_eq.mpr c5
        have c5b1 : (t102 != 0) = false := bne_eq_false_iff_eq.mpr c5
        clear c5
        obtain rfl := Option.some.inj H
        go_enter Tryz.func9, Tryz.ntmps9
        go_wp2_with (first | ((with_reducible refine gate_callee (f := 12) rfl ?_); refine goesL_ (some 5) rfl rfl Tryz.func12 (by kernel_rfl) rfl #[.string (a0.extract 0 1), .string (⟨#[97, 98, 99, 100, 101, 102, 103, 104, 105, 106, 107, 108, 109, 110, 111, 112, 113, 114, 115, 116, 117, 118, 119, 120, 121, 122, 65, 66, 67, 68, 69, 70, 71, 72, 73, 74, 75, 76, 77, 78, 79, 80, 81, 82, 83, 84, 85, 86, 87, 88, 89, 90]⟩ : ByteArray)] rfl (by (try simp only [List.map_toArray, List.map_cons, List.map_nil]); first | done | rfl | (simp only [List.length_drop, List.length_take]; rfl)) ?_; (with_reducible refine (tokens_run.calls (a0.extract 0 1) (⟨#[97, 98, 99, 100, 101, 102, 103, 104, 105, 106, 107, 108, 109, 110, 111, 112, 113, 114, 115, 116, 117, 118, 119, 120, 121, 122, 65, 66, 67, 68, 69, 70, 71, 72, 73, 74, 75, 76, 77, 78, 79, 80, 81, 82, 83, 84, 85, 86, 87, 88, 89, 90]⟩ : ByteArray) t102 _ A4.out).mono ?_); rintro e w6 ⟨rfl, hb⟩; refine ⟨_, rfl, ?_⟩; have n0_ := Aside0.mk (below_step (by repeat (first | (with_reducible first | exact HB.out | apply below_alloc | apply pw_below_drewN | apply below_drew1) | exact HB.out)) hb); clear HB; have HB := n0_; clear n0_; (try clear hb); (try clear hb2); (try clear hk); (try clear hi)))
        go_ret
        exact ⟨by first | rfl | (simp [errW_none, errW_some] <;> rfl) | (simp [*, errW_none, errW_some] <;> rfl), by repeat (first | (with_reducible first | exact HB.out | apply below_alloc | apply pw_below_drewN | apply below_drew1) | exact HB.out)⟩
      · rw [if_neg c5] at H
        have c5b0 : (t102 == 0) = false := beq_eq_false_iff_ne.mpr c5
        have c5b1 : (t102 != 0) = true := bne_iff_ne.mpr c5
        replace H := Option.bind_eq_some_iff.mp H
        obtain ⟨t103, A70, H⟩ := H
        replace H : (some t103) = some r := H
        have A7 := Aside0.mk A70
        clear A70
        obtain rfl := Option.some.inj H
        go_enter Tryz.func9, Tryz.ntmps9
        go_wp2_with (first | ((with_reducible refine gate_callee (f := 12) rfl ?_); refine goesL_ (some 5) rfl rfl Tryz.func12 (by kernel_rfl) rfl #[.string (a0.extract 0 1), .string (⟨#[97, 98, 99, 100, 101, 102, 103, 104, 105, 106, 107, 108, 109, 110, 111, 112, 113, 114, 115, 116, 117, 118, 119, 120, 121, 122, 65, 66, 67, 68, 69, 70, 71, 72, 73, 74, 75, 76, 77, 78, 79, 80, 81, 82, 83, 84, 85, 86, 87, 88, 89, 90]⟩ : ByteArray)] rfl (by (try simp only [List.map_toArray, List.map_cons, List.map_nil]); first | done | rfl | (simp only [List.length_drop, List.length_take]; rfl)) ?_; (with_reducible refine (tokens_run.calls (a0.extract 0 1) (⟨#[97, 98, 99, 100, 101, 102, 103, 104, 105, 106, 107, 108, 109, 110, 111, 112, 113, 114, 115, 116, 117, 118, 119, 120, 121, 122, 65, 66, 67, 68, 69, 70, 71, 72, 73, 74, 75, 76, 77, 78, 79, 80, 81, 82, 83, 84, 85, 86, 87, 88, 89, 90]⟩ : ByteArray) t102 _ A4.out).mono ?_); rintro e w8 ⟨rfl, hb⟩; refine ⟨_, rfl, ?_⟩; have n0_ := Aside0.mk (below_step (by repeat (first | (with_reducible first | exact HB.out | apply below_alloc | apply pw_below_drewN | apply below_drew1) | exact HB.out)) hb); clear HB; have HB := n0_; clear n0_; (try clear hb); (try clear hb2); (try clear hk); (try clear hi)) | ((with_reducible refine gate_callee (f := 12) rfl ?_); refine goesL_ (some 8) rfl rfl Tryz.func12 (by kernel_rfl) rfl #[.string a0, .string (⟨#[97, 98, 99, 100, 101, 102, 103, 104, 105, 106, 107, 108, 109, 110, 111, 112, 113, 114, 115, 116, 117, 118, 119, 120, 121, 122, 65, 66, 67, 68, 69, 70, 71, 72, 73, 74, 75, 76, 77, 78, 79, 80, 81, 82, 83, 84, 85, 86, 87, 88, 89, 90, 48, 49, 50, 51, 52, 53, 54, 55, 56, 57, 95]⟩ : ByteArray)] rfl (by (try simp only [List.map_toArray, List.map_cons, List.map_nil]); first | done | rfl | (simp only [List.length_drop, List.length_take]; rfl)) ?_; (with_reducible refine (tokens_run.calls a0 (⟨#[97, 98, 99, 100, 101, 102, 103, 104, 105, 106, 107, 108, 109, 110, 111, 112, 113, 114, 115, 116, 117, 118, 119, 120, 121, 122, 65, 66, 67, 68, 69, 70, 71, 72, 73, 74, 75, 76, 77, 78, 79, 80, 81, 82, 83, 84, 85, 86, 87, 88, 89, 90, 48, 49, 50, 51, 52, 53, 54, 55, 56, 57, 95]⟩ : ByteArray) t103 _ A7.out).mono ?_); rintro e w9 ⟨rfl, hb⟩; refine ⟨_, rfl, ?_⟩; have n0_ := Aside0.mk (below_step (by repeat (first | (with_reducible first | exact HB.out | apply below_alloc | apply pw_below_drewN | apply below_drew1) | exact HB.out)) hb); clear HB; have HB := n0_; clear n0_; (try clear hb); (try clear hb2); (try clear hk); (try clear hi)))
        go_ret
        exact ⟨by first | rfl | (simp [errW_none, errW_some] <;> rfl) | (simp [*, errW_none, errW_some] <;> rfl), by repeat (first | (with_reducible first | exact HB.out | apply below_alloc | apply pw_below_drewN | apply below_drew1) | exact HB.out)⟩
    · rw [if_neg c3] at H
      exact absurd H (by simp)
  · rw [if_neg c2] at H
    exact absurd H (by simp)

end Go.Proofs.YtgebfcdpbeaknaaGreatDoor.X
end

/-! #### X5 -/
section

namespace Go.Proofs.YtgebfcdpbeaknaaGreatDoor.X
open Go.RowKit Go.Proofs.YtgebfcdpbeaknaaGreatDoorW.PrintWords Go.Proofs.YtgebfcdpbeaknaaGreatDoorW.PrintLast Go.Proofs.YtgebfcdpbeaknaaGreatDoorW.PrintMore
attribute [local go_sem] max2_int min2_int max_two min_two max_three min_three max_four min_four   -- for this text's walks alone
set_option linter.unusedVariables false
set_option linter.unusedSimpArgs false

/-! ### stringslite_HasPrefix: function 87 -/
def stringslite_HasPrefix.f (a0 : ByteArray) (a1 : ByteArray) : Option (Bool) := if (a0.size : Int) ≥ (a1.size : Int) then (if 0 ≤ (a1.size : Int) then (if (a1.size : Int) ≤ (a0.size : Int) then (some ((a0.extract 0 ((a1.size : Int) : Int).toNat).toList == a1.toList)) else (none)) else (none)) else (some false)
set_option maxHeartbeats 8000000 in
set_option maxRecDepth 100000 in
theorem stringslite_HasPrefix.calls (a0 : ByteArray) (a1 : ByteArray) (r : Bool) (w : World) (h : stringslite_HasPrefix.f a0 a1 = some r) :
    Calls Tryz.prog 87 #[.string a0, .string a1] w fun e w' => e = .returned (.bool r) ∧ Drawn0 w w' := by
  have H : (if (a0.size : Int) ≥ (a1.size : Int) then (if 0 ≤ (a1.size : Int) then (if (a1.size : Int) ≤ (a0.size : Int) then (some ((a0.extract 0 ((a1.size : Int) : Int).toNat).toList == a1.toList)) else (none)) else (none)) else (some false)) = some r := h
  clear h
  by_cases c3 : (a0.size : Int) ≥ (a1.size : Int)
  · rw [if_pos c3] at H
    have c3b0 : decide ((a1.size : Int) ≤ (a0.size : Int)) = true := decide_eq_true c3
    have c3b1 : decide (a1.size ≤ a0.size) = true := decide_eq_true (Int.ofNat_le.mp c3)
    clear c3
    by_cases c4 : 0 ≤ (a1.size : Int)
    · rw [if_pos c4] at H
      have c4b0 := eq_true c4
      have c4b1 : decide (0 ≤ (a1.size : Int)) = true := decide_eq_true c4
      clear c4
      by_cases c5 : (a1.size : Int) ≤ (a0.size : Int)
      · rw [if_pos c5] at H
        have c5b0 := eq_true c5
        have c5b1 : decide ((a1.size : Int) ≤ (a0.size : Int)) = true := decide_eq_true c5
        clear c5
        obtain rfl := Option.some.inj H
        go_enter Tryz.func87, Tryz.ntmps87
        go_wp2
        go_ret
        exact ⟨by first | rfl | (simp; done) | (simp [*]; done), by repeat (first | exact Drawn0.refl _ | apply Drawn0.step)⟩
      · rw [if_neg c5] at H
        exact absurd H (by simp)
    · rw [if_neg c4] at H
      exact absurd H (by simp)
  · rw [if_neg c3] at H
    have c3b0 : decide ((a1.size : Int) ≤ (a0.size : Int)) = false := decide_eq_false c3
    have c3b1 : decide (a1.size ≤ a0.size) = false := decide_eq_false (fun h => c3 (Int.ofNat_le.mpr h))
    clear c3
    obtain rfl := Option.some.inj H
    go_enter Tryz.func87, Tryz.ntmps87
    go_wp2
    go_ret
    exact ⟨by first | rfl | (simp; done) | (simp [*]; done), by repeat (first | exact Drawn0.refl _ | apply Drawn0.step)⟩

end Go.Proofs.YtgebfcdpbeaknaaGreatDoor.X
end

/-! #### X6 -/
section

namespace Go.Proofs.YtgebfcdpbeaknaaGreatDoor.X
open Go.RowKit Go.Proofs.YtgebfcdpbeaknaaGreatDoorW.PrintWords Go.Proofs.YtgebfcdpbeaknaaGreatDoorW.PrintLast Go.Proofs.YtgebfcdpbeaknaaGreatDoorW.PrintMore
attribute [local go_sem] max2_int min2_int max_two min_two max_three min_three max_four min_four   -- for this text's walks alone
set_option linter.unusedVariables false
set_option linter.unusedSimpArgs false

/-! ### stringslite_CutPrefix: function 86 -/
def stringslite_CutPrefix.f (a0 : ByteArray) (a1 : ByteArray) : Option (ByteArray × Bool) := (stringslite_HasPrefix.f a0 a1).bind fun t104 => (if t104 = true then (if 0 ≤ (a1.size : Int) then (if (a1.size : Int) ≤ (a0.size : Int) then (some (a0.extract ((a1.size : Int) : Int).toNat a0.size, true)) else (none)) else (none)) else (some (a0, false)))
set_option maxHeartbeats 8000000 in
set_option maxRecDepth 100000 in
theorem stringslite_CutPrefix.calls (a0 : ByteArray) (a1 : ByteArray) (r1 : ByteArray) (r2 : Bool) (w : World) (h : stringslite_CutPrefix.f a0 a1 = some (r1, r2)) :
    Calls Tryz.prog 86 #[.string a0, .string a1] w fun e w' => e = .returned (.tuple #[.string r1, .bool r2]) ∧ Drawn0 w w' := by
  have H : ((stringslite_HasPrefix.f a0 a1).bind fun t104 => (if t104 = true then (if 0 ≤ (a1.size : Int) then (if (a1.size : Int) ≤ (a0.size : Int) then (some (a0.extract ((a1.size : Int) : Int).toNat a0.size, true)) else (none)) else (none)) else (some (a0, false)))) = some (r1, r2) := h
  clear h
  replace H := Option.bind_eq_some_iff.mp H
  obtain ⟨t104, A30, H⟩ := H
  replace H : (if t104 = true then (if 0 ≤ (a1.size : Int) then (if (a1.size : Int) ≤ (a0.size : Int) then (some (a0.extract ((a1.size : Int) : Int).toNat a0.size, true)) else (none)) else (none)) else (some (a0, false))) = some (r1, r2) := H
  have A3 := Aside0.mk A30
  clear A30
  by_cases c4 : t104 = true
  · subst c4
    have H1 : (if 0 ≤ (a1.size : Int) then (if (a1.size : Int) ≤ (a0.size : Int) then (some (a0.extract ((a1.size : Int) : Int).toNat a0.size, true)) else (none)) else (none)) = some (r1, r2) := by rw [if_pos rfl] at H; exact H
    clear H
    have H := H1
    clear H1
    by_cases c5 : 0 ≤ (a1.size : Int)
    · rw [if_pos c5] at H
      have c5b0 := eq_true c5
      have c5b1 : decide (0 ≤ (a1.size : Int)) = true := decide_eq_true c5
      clear c5
      by_cases c6 : (a1.size : Int) ≤ (a0.size : Int)
      · rw [if_pos c6] at H
        have c6b0 := eq_true c6
        have c6b1 : decide ((a1.size : Int) ≤ (a0.size : Int)) = true := decide_eq_true c6
        clear c6
        simp only [Option.some.injEq, Prod.mk.injEq] at H
        obtain ⟨rfl, rfl⟩ := H
        go_enter Tryz.func86, Tryz.ntmps86
        go_wp2_with (first | ((with_reducible refine gate_callee (f := 87) rfl ?_); refine goesL_ (some 8) rfl rfl Tryz.func87 (by kernel_rfl) rfl #[.string a0, .string a1] rfl (by (try simp only [List.map_toArray, List.map_cons, List.map_nil]); first | done | rfl | (simp only [List.length_drop, List.length_take]; rfl)) ?_; (with_reducible refine (stringslite_HasPrefix.calls a0 a1 true _ A3.out).mono ?_); rintro e w' ⟨rfl, ⟨nd, rfl⟩⟩; refine ⟨_, rfl, ?_⟩))
        go_ret2
        exact ⟨by first | rfl | (simp; done) | (simp [*]; done), by repeat (first | exact Drawn0.refl _ | apply Drawn0.step)⟩
      · rw [if_neg c6] at H
        exact absurd H (by simp)
    · rw [if_neg c5] at H
      exact absurd H (by simp)
  · replace c4 := Bool.eq_false_iff.mpr c4
    subst c4
    have H1 : (some (a0, false)) = some (r1, r2) := by rw [if_neg (show ¬ (false = true) by decide)] at H; exact H
    clear H
    have H := H1
    clear H1
    simp only [Option.some.injEq, Prod.mk.injEq] at H
    obtain ⟨rfl, rfl⟩ := H
    go_enter Tryz.func86, Tryz.ntmps86
    go_wp2_with (first | ((with_reducible refine gate_callee (f := 87) rfl ?_); refine goesL_ (some 8) rfl rfl Tryz.func87 (by kernel_rfl) rfl #[.string a0, .string a1] rfl (by (try simp only [List.map_toArray, List.map_cons, List.map_nil]); first | done | rfl | (simp only [List.length_drop, List.length_take]; rfl)) ?_; (with_reducible refine (stringslite_HasPrefix.calls a0 a1 false _ A3.out).mono ?_); rintro e w' ⟨rfl, ⟨nd, rfl⟩⟩; refine ⟨_, rfl, ?_⟩))
    go_ret2
    exact ⟨by first | rfl | (simp; done) | (simp [*]; done), by repeat (first | exact Drawn0.refl _ | apply Drawn0.step)⟩

end Go.Proofs.YtgebfcdpbeaknaaGreatDoor.X
end

/-! #### X7 -/
section

namespace Go.Proofs.YtgebfcdpbeaknaaGreatDoor.X
open Go.RowKit Go.Proofs.YtgebfcdpbeaknaaGreatDoorW.PrintWords Go.Proofs.YtgebfcdpbeaknaaGreatDoorW.PrintLast Go.Proofs.YtgebfcdpbeaknaaGreatDoorW.PrintMore
attribute [local go_sem] max2_int min2_int max_two min_two max_three min_three max_four min_four   -- for this text's walks alone
set_option linter.unusedVariables false
set_option linter.unusedSimpArgs false

/-! ### strings_CutPrefix: function 54 -/
def strings_CutPrefix.f (a0 : ByteArray) (a1 : ByteArray) : Option (ByteArray × Bool) := (stringslite_CutPrefix.f a0 a1).bind fun bt105 => (some (bt105.1, bt105.2))
set_option maxHeartbeats 8000000 in
set_option maxRecDepth 100000 in
theorem strings_CutPrefix.calls (a0 : ByteArray) (a1 : ByteArray) (r1 : ByteArray) (r2 : Bool) (w : World) (h : strings_CutPrefix.f a0 a1 = some (r1, r2)) :
    Calls Tryz.prog 54 #[.string a0, .string a1] w fun e w' => e = .returned (.tuple #[.string r1, .bool r2]) ∧ Drawn0 w w' := by
  have H : ((stringslite_CutPrefix.f a0 a1).bind fun bt105 => (some (bt105.1, bt105.2))) = some (r1, r2) := h
  clear h
  replace H := Option.bind_eq_some_iff.mp H
  obtain ⟨⟨t105, t106⟩, A30, H⟩ := H
  replace H : (some (t105, t106)) = some (r1, r2) := H
  have A3 := Aside0.mk A30
  clear A30
  simp only [Option.some.injEq, Prod.mk.injEq] at H
  obtain ⟨rfl, rfl⟩ := H
  go_enter Tryz.func54, Tryz.ntmps54
  go_wp2_with (first | ((with_reducible refine gate_callee (f := 86) rfl ?_); refine goesL_ (some 8) rfl rfl Tryz.func86 (by kernel_rfl) rfl #[.string a0, .string a1] rfl (by (try simp only [List.map_toArray, List.map_cons, List.map_nil]); first | done | rfl | (simp only [List.length_drop, List.length_take]; rfl)) ?_; (with_reducible refine (stringslite_CutPrefix.calls a0 a1 t105 t106 _ A3.out).mono ?_); rintro e w' ⟨rfl, ⟨nd, rfl⟩⟩; refine ⟨_, rfl, ?_⟩))
  go_ret2
  exact ⟨by first | rfl | (simp; done) | (simp [*]; done), by repeat (first | exact Drawn0.refl _ | apply Drawn0.step)⟩

end Go.Proofs.YtgebfcdpbeaknaaGreatDoor.X
end

/-! #### X8 -/
section

namespace Go.Proofs.YtgebfcdpbeaknaaGreatDoor.X
open Go.RowKit Go.Proofs.YtgebfcdpbeaknaaGreatDoorW.PrintWords Go.Proofs.YtgebfcdpbeaknaaGreatDoorW.PrintLast Go.Proofs.YtgebfcdpbeaknaaGreatDoorW.PrintMore
attribute [local go_sem] max2_int min2_int max_two min_two max_three min_three max_four min_four   -- for this text's walks alone
set_option linter.unusedVariables false
set_option linter.unusedSimpArgs false

/-! ### tokens_number: function 10 -/
def tokens_number.f (a0 : ByteArray) : Option (Int) := (tokens_run.f a0 (⟨#[48, 49, 50, 51, 52, 53, 54, 55, 56, 57]⟩ : ByteArray)).bind fun t107 => (if 0 ≤ t107 then (if t107 ≤ (a0.size : Int) then ((strings_CutPrefix.f (a0.extract (t107 : Int).toNat a0.size) (⟨#[46]⟩ : ByteArray)).bind fun bt108 => (if bt108.2 = true then (if t107 > 0 then ((tokens_run.f bt108.1 (⟨#[48, 49, 50, 51, 52, 53, 54, 55, 56, 57]⟩ : ByteArray)).bind fun t110 => (if t110 > 0 then ((tokens_run.f bt108.1 (⟨#[48, 49, 50, 51, 52, 53, 54, 55, 56, 57]⟩ : ByteArray)).bind fun t111 => (some (wrap64 (t107 + (wrap64 (1 + t111)))))) else (some t107))) else (some t107)) else (some t107))) else (none)) else (none))
set_option maxHeartbeats 8000000 in
set_option maxRecDepth 100000 in
theorem tokens_number.calls (a0 : ByteArray) (r : Int) (w : World) (h : tokens_number.f a0 = some r) :
    Calls Tryz.prog 10 #[.string a0] w fun e w' => e = .returned (.int .i64 r) ∧ Below w.heap.size w w' := by
  have HB := Aside0.mk (Below.refl w.heap.size w)
  have H : ((tokens_run.f a0 (⟨#[48, 49, 50, 51, 52, 53, 54, 55, 56, 57]⟩ : ByteArray)).bind fun t107 => (if 0 ≤ t107 then (if t107 ≤ (a0.size : Int) then ((strings_CutPrefix.f (a0.extract (t107 : Int).toNat a0.size) (⟨#[46]⟩ : ByteArray)).bind fun bt108 => (if bt108.2 = true then (if t107 > 0 then ((tokens_run.f bt108.1 (⟨#[48, 49, 50, 51, 52, 53, 54, 55, 56, 57]⟩ : ByteArray)).bind fun t110 => (if t110 > 0 then ((tokens_run.f bt108.1 (⟨#[48, 49, 50, 51, 52, 53, 54, 55, 56, 57]⟩ : ByteArray)).bind fun t111 => (some (wrap64 (t107 + (wrap64 (1 + t111)))))) else (some t107))) else (some t107)) else (some t107))) else (none)) else (none))) = some r := h
  clear h
  replace H := Option.bind_eq_some_iff.mp H
  obtain ⟨t107, A20, H⟩ := H
  replace H : (if 0 ≤ t107 then (if t107 ≤ (a0.size : Int) then ((strings_CutPrefix.f (a0.extract (t107 : Int).toNat a0.size) (⟨#[46]⟩ : ByteArray)).bind fun bt108 => (if bt108.2 = true then (if t107 > 0 then ((tokens_run.f bt108.1 (⟨#[48, 49, 50, 51, 52, 53, 54, 55, 56, 57]⟩ : ByteArray)).bind fun t110 => (if t110 > 0 then ((tokens_run.f bt108.1 (⟨#[48, 49, 50, 51, 52, 53, 54, 55, 56, 57]⟩ : ByteArray)).bind fun t111 => (some (wrap64 (t107 + (wrap64 (1 + t111)))))) else (some t107))) else (some t107)) else (some t107))) else (none)) else (none)) = some r := H
  have A2 := Aside0.mk A20
  clear A20
  by_cases c3 : 0 ≤ t107
  · rw [if_pos c3] at H
    have c3b0 := eq_true c3
    have c3b1 : decide (0 ≤ t107) = true := decide_eq_true c3
    clear c3
    by_cases c4 : t107 ≤ (a0.size : Int)
    · rw [if_pos c4] at H
      have c4b0 := eq_true c4
      have c4b1 : decide (t107 ≤ (a0.size : Int)) = true := decide_eq_true c4
      clear c4
      replace H := Option.bind_eq_some_iff.mp H
      obtain ⟨⟨t108, t109⟩, A50, H⟩ := H
      replace H : (if t109 = true then (if t107 > 0 then ((tokens_run.f t108 (⟨#[48, 49, 50, 51, 52, 53, 54, 55, 56, 57]⟩ : ByteArray)).bind fun t110 => (if t110 > 0 then ((tokens_run.f t108 (⟨#[48, 49, 50, 51, 52, 53, 54, 55, 56, 57]⟩ : ByteArray)).bind fun t111 => (some (wrap64 (t107 + (wrap64 (1 + t111)))))) else (some t107))) else (some t107)) else (some t107)) = some r := H
      have A5 := Aside0.mk A50
      clear A50
      by_cases c6 : t109 = true
      · subst c6
        have H1 : (if t107 > 0 then ((tokens_run.f t108 (⟨#[48, 49, 50, 51, 52, 53, 54, 55, 56, 57]⟩ : ByteArray)).bind fun t110 => (if t110 > 0 then ((tokens_run.f t108 (⟨#[48, 49, 50, 51, 52, 53, 54, 55, 56, 57]⟩ : ByteArray)).bind fun t111 => (some (wrap64 (t107 + (wrap64 (1 + t111)))))) else (some t107))) else (some t107)) = some r := by rw [if_pos rfl] at H; exact H
        clear H
        have H := H1
        clear H1
        by_cases c7 : t107 > 0
        · rw [if_pos c7] at H
          have c7b0 : decide (0 < t107) = true := decide_eq_true c7
          clear c7
          replace H := Option.bind_eq_some_iff.mp H
          obtain ⟨t110, A80, H⟩ := H
          replace H : (if t110 > 0 then ((tokens_run.f t108 (⟨#[48, 49, 50, 51, 52, 53, 54, 55, 56, 57]⟩ : ByteArray)).bind fun t111 => (some (wrap64 (t107 + (wrap64 (1 + t111)))))) else (some t107)) = some r := H
          have A8 := Aside0.mk A80
          clear A80
          by_cases c9 : t110 > 0
          · rw [if_pos c9] at H
            have c9b0 : decide (0 < t110) = true := decide_eq_true c9
            clear c9
            replace H := Option.bind_eq_some_iff.mp H
            obtain ⟨t111, A100, H⟩ := H
            replace H : (some (wrap64 (t107 + (wrap64 (1 + t111))))) = some r := H
            have A10 := Aside0.mk A100
            clear A100
            obtain rfl := Option.some.inj H
            go_enter Tryz.func10, Tryz.ntmps10
            go_wp2_with (first | ((with_reducible refine gate_callee (f := 12) rfl ?_); refine goesL_ (some 7) rfl rfl Tryz.func12 (by kernel_rfl) rfl #[.string a0, .string (⟨#[48, 49, 50, 51, 52, 53, 54, 55, 56, 57]⟩ : ByteArray)] rfl (by (try simp only [List.map_toArray, List.map_cons, List.map_nil]); first | done | rfl | (simp only [List.length_drop, List.length_take]; rfl)) ?_; (with_reducible refine (tokens_run.calls a0 (⟨#[48, 49, 50, 51, 52, 53, 54, 55, 56, 57]⟩ : ByteArray) t107 _ A2.out).mono ?_); rintro e w11 ⟨rfl, hb⟩; refine ⟨_, rfl, ?_⟩; have n0_ := Aside0.mk (below_step (by repeat (first | (with_reducible first | exact HB.out | apply below_alloc | apply pw_below_drewN | apply below_drew1) | exact HB.out)) hb); clear HB; have HB := n0_; clear n0_; (try clear hb); (try clear hb2); (try clear hk); (try clear hi)) | ((with_reducible refine gate_callee (f := 54) rfl ?_); refine goesL_ (some 12) rfl rfl Tryz.func54 (by kernel_rfl) rfl #[.string (a0.extract (t107 : Int).toNat a0.size), .string (⟨#[46]⟩ : ByteArray)] rfl (by (try simp only [List.map_toArray, List.map_cons, List.map_nil]); first | done | rfl | (simp only [List.length_drop, List.length_take]; rfl)) ?_; (with_reducible refine (strings_CutPrefix.calls (a0.extract (t107 : Int).toNat a0.size) (⟨#[46]⟩ : ByteArray) t108 true _ A5.out).mono ?_); rintro e w' ⟨rfl, ⟨nd, rfl⟩⟩; refine ⟨_, rfl, ?_⟩) | (go_at_call 12; (with_reducible refine (tokens_run.calls t108 (⟨#[48, 49, 50, 51, 52, 53, 54, 55, 56, 57]⟩ : ByteArray) t110 _ A8.out).mono ?_); rintro e w12 ⟨rfl, hb⟩; have n0_ := Aside0.mk (below_step (by repeat (first | (with_reducible first | exact HB.out | apply below_alloc | apply pw_below_drewN | apply below_drew1) | exact HB.out)) hb); clear HB; have HB := n0_; clear n0_; (try clear hb); (try clear hb2); (try clear hk); (try clear hi)) | ((with_reducible refine gate_callee (f := 12) rfl ?_); refine goesL_ (some 27) rfl rfl Tryz.func12 (by kernel_rfl) rfl #[.string t108, .string (⟨#[48, 49, 50, 51, 52, 53, 54, 55, 56, 57]⟩ : ByteArray)] rfl (by (try simp only [List.map_toArray, List.map_cons, List.map_nil]); first | done | rfl | (simp only [List.length_drop, List.length_take]; rfl)) ?_; (with_reducible refine (tokens_run.calls t108 (⟨#[48, 49, 50, 51, 52, 53, 54, 55, 56, 57]⟩ : ByteArray) t111 _ A10.out).mono ?_); rintro e w13 ⟨rfl, hb⟩; refine ⟨_, rfl, ?_⟩; have n0_ := Aside0.mk (below_step (by repeat (first | (with_reducible first | exact HB.out | apply below_alloc | apply pw_below_drewN | apply below_drew1) | exact HB.out)) hb); clear HB; have HB := n0_; clear n0_; (try clear hb); (try clear hb2); (try clear hk); (try clear hi)))
            go_ret
            exact ⟨by first | rfl | (simp [errW_none, errW_some] <;> rfl) | (simp [*, errW_none, errW_some] <;> rfl), by repeat (first | (with_reducible first | exact HB.out | apply below_alloc | apply pw_below_drewN | apply below_drew1) | exact HB.out)⟩
          · rw [if_neg c9] at H
            have c9b0 : decide (0 < t110) = false := decide_eq_false c9
            clear c9
            obtain rfl := Option.some.inj H
            go_enter Tryz.func10, Tryz.ntmps10
            go_wp2_with (first | ((with_reducible refine gate_callee (f := 12) rfl ?_); refine goesL_ (some 7) rfl rfl Tryz.func12 (by kernel_rfl) rfl #[.string a0, .string (⟨#[48, 49, 50, 51, 52, 53, 54, 55, 56, 57]⟩ : ByteArray)] rfl (by (try simp only [List.map_toArray, List.map_cons, List.map_nil]); first | done | rfl | (simp only [List.length_drop, List.length_take]; rfl)) ?_; (with_reducible refine (tokens_run.calls a0 (⟨#[48, 49, 50, 51, 52, 53, 54, 55, 56, 57]⟩ : ByteArray) t107 _ A2.out).mono ?_); rintro e w14 ⟨rfl, hb⟩; refine ⟨_, rfl, ?_⟩; have n0_ := Aside0.mk (below_step (by repeat (first | (with_reducible first | exact HB.out | apply below_alloc | apply pw_below_drewN | apply below_drew1) | exact HB.out)) hb); clear HB; have HB := n0_; clear n0_; (try clear hb); (try clear hb2); (try clear hk); (try clear hi)) | ((with_reducible refine gate_callee (f := 54) rfl ?_); refine goesL_ (some 12) rfl rfl Tryz.func54 (by kernel_rfl) rfl #[.string (a0.extract (t107 : Int).toNat a0.size), .string (⟨#[46]⟩ : ByteArray)] rfl (by (try simp only [List.map_toArray, List.map_cons, List.map_nil]); first | done | rfl | (simp only [List.length_drop, List.length_take]; rfl)) ?_; (with_reducible refine (strings_CutPrefix.calls (a0.extract (t107 : Int).toNat a0.size) (⟨#[46]⟩ : ByteArray) t108 true _ A5.out).mono ?_); rintro e w' ⟨rfl, ⟨nd, rfl⟩⟩; refine ⟨_, rfl, ?_⟩) | (go_at_call 12; (with_reducible refine (tokens_run.calls t108 (⟨#[48, 49, 50, 51, 52, 53, 54, 55, 56, 57]⟩ : ByteArray) t110 _ A8.out).mono ?_); rintro e w15 ⟨rfl, hb⟩; have n0_ := Aside0.mk (below_step (by repeat (first | (with_reducible first | exact HB.out | apply below_alloc | apply pw_below_drewN | apply below_drew1) | exact HB.out)) hb); clear HB; have HB := n0_; clear n0_; (try clear hb); (try clear hb2); (try clear hk); (try clear hi)))
            go_ret
            exact ⟨by first | rfl | (simp [errW_none, errW_some] <;> rfl) | (simp [*, errW_none, errW_some] <;> rfl), by repeat (first | (with_reducible first | exact HB.out | apply below_alloc | apply pw_below_drewN | apply below_drew1) | exact HB.out)⟩
        · rw [if_neg c7] at H
          have c7b0 : decide (0 < t107) = false := decide_eq_false c7
          clear c7
          obtain rfl := Option.some.inj H
          go_enter Tryz.func10, Tryz.ntmps10
          go_wp2_with (first | ((with_reducible refine gate_callee (f := 12) rfl ?_); refine goesL_ (some 7) rfl rfl Tryz.func12 (by kernel_rfl) rfl #[.string a0, .string (⟨#[48, 49, 50, 51, 52, 53, 54, 55, 56, 57]⟩ : ByteArray)] rfl (by (try simp only [List.map_toArray, List.map_cons, List.map_nil]); first | done | rfl | (simp only [List.length_drop, List.length_take]; rfl)) ?_; (with_reducible refine (tokens_run.calls a0 (⟨#[48, 49, 50, 51, 52, 53, 54, 55, 56, 57]⟩ : ByteArray) t107 _ A2.out).mono ?_); rintro e w16 ⟨rfl, hb⟩; refine ⟨_, rfl, ?_⟩; have n0_ := Aside0.mk (below_step (by repeat (first | (with_reducible first | exact HB.out | apply below_alloc | apply pw_below_drewN | apply below_drew1) | exact HB.out)) hb); clear HB; have HB := n0_; clear n0_; (try clear hb); (try clear hb2); (try clear hk); (try clear hi)) | ((with_reducible refine gate_callee (f := 54) rfl ?_); refine goesL_ (some 12) rfl rfl Tryz.func54 (by kernel_rfl) rfl #[.string (a0.extract (t107 : Int).toNat a0.size), .string (⟨#[46]⟩ : ByteArray)] rfl (by (try simp only [List.map_toArray, List.map_cons, List.map_nil]); first | done | rfl | (simp only [List.length_drop, List.length_take]; rfl)) ?_; (with_reducible refine (strings_CutPrefix.calls (a0.extract (t107 : Int).toNat a0.size) (⟨#[46]⟩ : ByteArray) t108 true _ A5.out).mono ?_); rintro e w' ⟨rfl, ⟨nd, rfl⟩⟩; refine ⟨_, rfl, ?_⟩))
          go_ret
          exact ⟨by first | rfl | (simp [errW_none, errW_some] <;> rfl) | (simp [*, errW_none, errW_some] <;> rfl), by repeat (first | (with_reducible first | exact HB.out | apply below_alloc | apply pw_below_drewN | apply below_drew1) | exact HB.out)⟩
      · replace c6 := Bool.eq_false_iff.mpr c6
        subst c6
        have H1 : (some t107) = some r := by rw [if_neg (show ¬ (false = true) by decide)] at H; exact H
        clear H
        have H := H1
        clear H1
        obtain rfl := Option.some.inj H
        go_enter Tryz.func10, Tryz.ntmps10
        go_wp2_with (first | ((with_reducible refine gate_callee (f := 12) rfl ?_); refine goesL_ (some 7) rfl rfl Tryz.func12 (by kernel_rfl) rfl #[.string a0, .string (⟨#[48, 49, 50, 51, 52, 53, 54, 55, 56, 57]⟩ : ByteArray)] rfl (by (try simp only [List.map_toArray, List.map_cons, List.map_nil]); first | done | rfl | (simp only [List.length_drop, List.length_take]; rfl)) ?_; (with_reducible refine (tokens_run.calls a0 (⟨#[48, 49, 50, 51, 52, 53, 54, 55, 56, 57]⟩ : ByteArray) t107 _ A2.out).mono ?_); rintro e w17 ⟨rfl, hb⟩; refine ⟨_, rfl, ?_⟩; have n0_ := Aside0.mk (below_step (by repeat (first | (with_reducible first | exact HB.out | apply below_alloc | apply pw_below_drewN | apply below_drew1) | exact HB.out)) hb); clear HB; have HB := n0_; clear n0_; (try clear hb); (try clear hb2); (try clear hk); (try clear hi)) | ((with_reducible refine gate_callee (f := 54) rfl ?_); refine goesL_ (some 12) rfl rfl Tryz.func54 (by kernel_rfl) rfl #[.string (a0.extract (t107 : Int).toNat a0.size), .string (⟨#[46]⟩ : ByteArray)] rfl (by (try simp only [List.map_toArray, List.map_cons, List.map_nil]); first | done | rfl | (simp only [List.length_drop, List.length_take]; rfl)) ?_; (with_reducible refine (strings_CutPrefix.calls (a0.extract (t107 : Int).toNat a0.size) (⟨#[46]⟩ : ByteArray) t108 false _ A5.out).mono ?_); rintro e w' ⟨rfl, ⟨nd, rfl⟩⟩; refine ⟨_, rfl, ?_⟩))
        go_ret
        exact ⟨by first | rfl | (simp [errW_none, errW_some] <;> rfl) | (simp [*, errW_none, errW_some] <;> rfl), by repeat (first | (with_reducible first | exact HB.out | apply below_alloc | apply pw_below_drewN | apply below_drew1) | exact HB.out)⟩
    · rw [if_neg c4] at H
      exact absurd H (by simp)
  · rw [if_neg c3] at H
    exact absurd H (by simp)

end Go.Proofs.YtgebfcdpbeaknaaGreatDoor.X
end

/-! #### X9 -/
section

namespace Go.Proofs.YtgebfcdpbeaknaaGreatDoor.X
open Go.RowKit Go.Proofs.YtgebfcdpbeaknaaGreatDoorW.PrintWords Go.Proofs.YtgebfcdpbeaknaaGreatDoorW.PrintLast Go.Proofs.YtgebfcdpbeaknaaGreatDoorW.PrintMore
attribute [local go_sem] max2_int min2_int max_two min_two max_three min_three max_four min_four   -- for this text's walks alone
set_option linter.unusedVariables false
set_option linter.unusedSimpArgs false

/-! ### strings_HasPrefix: function 55 -/
def strings_HasPrefix.f (a0 : ByteArray) (a1 : ByteArray) : Option (Bool) := (stringslite_HasPrefix.f a0 a1).bind fun t112 => (some t112)
set_option maxHeartbeats 8000000 in
set_option maxRecDepth 100000 in
theorem strings_HasPrefix.calls (a0 : ByteArray) (a1 : ByteArray) (r : Bool) (w : World) (h : strings_HasPrefix.f a0 a1 = some r) :
    Calls Tryz.prog 55 #[.string a0, .string a1] w fun e w' => e = .returned (.bool r) ∧ Drawn0 w w' := by
  have H : ((stringslite_HasPrefix.f a0 a1).bind fun t112 => (some t112)) = some r := h
  clear h
  replace H := Option.bind_eq_some_iff.mp H
  obtain ⟨t112, A30, H⟩ := H
  replace H : (some t112) = some r := H
  have A3 := Aside0.mk A30
  clear A30
  obtain rfl := Option.some.inj H
  go_enter Tryz.func55, Tryz.ntmps55
  go_wp2_with (first | ((with_reducible refine gate_callee (f := 87) rfl ?_); refine goesL_ (some 7) rfl rfl Tryz.func87 (by kernel_rfl) rfl #[.string a0, .string a1] rfl (by (try simp only [List.map_toArray, List.map_cons, List.map_nil]); first | done | rfl | (simp only [List.length_drop, List.length_take]; rfl)) ?_; (with_reducible refine (stringslite_HasPrefix.calls a0 a1 t112 _ A3.out).mono ?_); rintro e w' ⟨rfl, ⟨nd, rfl⟩⟩; refine ⟨_, rfl, ?_⟩))
  go_ret
  exact ⟨by first | rfl | (simp; done) | (simp [*]; done), by repeat (first | exact Drawn0.refl _ | apply Drawn0.step)⟩

end Go.Proofs.YtgebfcdpbeaknaaGreatDoor.X
end

/-! #### X10 -/
section

namespace Go.Proofs.YtgebfcdpbeaknaaGreatDoor.X
open Go.RowKit Go.Proofs.YtgebfcdpbeaknaaGreatDoorW.PrintWords Go.Proofs.YtgebfcdpbeaknaaGreatDoorW.PrintLast Go.Proofs.YtgebfcdpbeaknaaGreatDoorW.PrintMore
attribute [local go_sem] max2_int min2_int max_two min_two max_three min_three max_four min_four   -- for this text's walks alone
set_option linter.unusedVariables false
set_option linter.unusedSimpArgs false

/-! ### strings_IndexByte: function 56 -/
-- by hand: strings_IndexByte.tpl
def strings_IndexByte.f (a0 : ByteArray) (a1 : Int) : Option (Int) := some (Lib.indexByte a0.data.toList a1.toNat.toUInt8)
theorem strings_IndexByte.calls (a0 : ByteArray) (a1 : Int) (r : Int) (w : World) (h : strings_IndexByte.f a0 a1 = some r) :
    Calls Tryz.prog 56 #[.string a0, .int .u8 a1] w fun e w' => e = .returned (.int .i64 r) ∧ Drawn0 w w' := by
  obtain rfl := Option.some.inj h
  exact (Tryz.strings_IndexByte a0 a1 w).mono fun e w' ⟨h1, h2⟩ => ⟨h1, h2 ▸ Drawn0.refl _⟩

end Go.Proofs.YtgebfcdpbeaknaaGreatDoor.X
end

/-! #### X11 -/
section

namespace Go.Proofs.YtgebfcdpbeaknaaGreatDoor.X
open Go.RowKit Go.Proofs.YtgebfcdpbeaknaaGreatDoorW.PrintWords Go.Proofs.YtgebfcdpbeaknaaGreatDoorW.PrintLast Go.Proofs.YtgebfcdpbeaknaaGreatDoorW.PrintMore
attribute [local go_sem] max2_int min2_int max_two min_two max_three min_three max_four min_four   -- for this text's walks alone
set_option linter.unusedVariables false
set_option linter.unusedSimpArgs false

/-! ### tokens_sign: function 11 -/
def tokens_sign.j0 : Nat → ByteArray → Bool → Option (Int)
  | 0, _, _ => none
  | k + 1, x0, x3 => if x3 = true then (some 2) else (if 0 < (x0.size : Int) then ((strings_IndexByte.f (⟨#[43, 45, 42, 47, 44, 58, 59, 61, 40, 41, 91, 93]⟩ : ByteArray) (bt x0 0)).bind fun t115 => (if t115 ≥ 0 then (some 1) else (some 0))) else (none))
def tokens_sign.f (k : Nat) (a0 : ByteArray) : Option (Int) := (strings_HasPrefix.f a0 (⟨#[60, 61]⟩ : ByteArray)).bind fun t113 => (if t113 = true then (tokens_sign.j0 k a0 true) else ((strings_HasPrefix.f a0 (⟨#[62, 61]⟩ : ByteArray)).bind fun t114 => (tokens_sign.j0 k a0 t114)))
theorem tokens_sign.mono_l : ∀ k, (∀ y0 y1, LeO (tokens_sign.j0 k y0 y1) (tokens_sign.j0 (k + 1) y0 y1))
  | 0 => fun _ _ r h => by simp [tokens_sign.j0] at h
  | k + 1 => by
    have ih0 := tokens_sign.mono_l k
    · intro y0 y1
      unfold tokens_sign.j0
      repeat' first
      | (with_reducible exact ih0 _ _)
      | (with_reducible exact LeO.refl _)
      | (with_reducible exact LeO.none _)
      | (with_reducible refine LeO.ite ?_ ?_)
      | (with_reducible refine LeO.bind ?_ (fun _ => ?_))
      | exact ih0 _ _
      | exact LeO.none _
      | refine LeO.ite ?_ ?_
      | refine LeO.bind ?_ (fun _ => ?_)
theorem tokens_sign.mono : ∀ a0 k, LeO (tokens_sign.f k a0) (tokens_sign.f (k + 1) a0) := by
  intro a0 k
  have ih0 := tokens_sign.mono_l k
  unfold tokens_sign.f
  repeat' first
      | (with_reducible exact ih0 _ _)
      | (with_reducible exact LeO.refl _)
      | (with_reducible exact LeO.none _)
      | (with_reducible refine LeO.ite ?_ ?_)
      | (with_reducible refine LeO.bind ?_ (fun _ => ?_))
      | exact ih0 _ _
      | exact LeO.none _
      | refine LeO.ite ?_ ?_
      | refine LeO.bind ?_ (fun _ => ?_)
set_option maxHeartbeats 8000000 in
set_option maxRecDepth 100000 in
theorem tokens_sign.calls (k : Nat) (a0 : ByteArray) (r : Int) (w : World) (h : tokens_sign.f k a0 = some r) :
    Calls Tryz.prog 11 #[.string a0] w fun e w' => e = .returned (.int .i64 r) ∧ Drawn0 w w' := by
  have H : ((strings_HasPrefix.f a0 (⟨#[60, 61]⟩ : ByteArray)).bind fun t113 => (if t113 = true then (tokens_sign.j0 k a0 true) else ((strings_HasPrefix.f a0 (⟨#[62, 61]⟩ : ByteArray)).bind fun t114 => (tokens_sign.j0 k a0 t114)))) = some r := h
  clear h
  have HC2 := Aside0.mk H
  clear H
  go_enter Tryz.func11, Tryz.ntmps11
  go_upto_region 1 with (fail)
  go_cut [3] (fun v3 wc => ∃ (kq : Nat) (x3_1 : Bool), v3 = .bool x3_1 ∧ Aside0 (tokens_sign.j0 kq a0 x3_1 = some r) ∧ Aside0 (kq ≤ k) ∧ Drawn0 w wc)
  case first =>
    have H := HC2.out
    clear HC2
    replace H := Option.bind_eq_some_iff.mp H
    obtain ⟨t113, A30, H⟩ := H
    replace H : (if t113 = true then (tokens_sign.j0 k a0 true) else ((strings_HasPrefix.f a0 (⟨#[62, 61]⟩ : ByteArray)).bind fun t114 => (tokens_sign.j0 k a0 t114))) = some r := H
    have A3 := Aside0.mk A30
    clear A30
    by_cases c4 : t113 = true
    · subst c4
      have H1 : (tokens_sign.j0 k a0 true) = some r := by rw [if_pos rfl] at H; exact H
      clear H
      have H := H1
      clear H1
      have H' := Aside0.mk H
      clear H
      go_wp2_with (first | ((with_reducible refine gate_callee (f := 55) rfl ?_); refine goesL_ (some 5) rfl rfl Tryz.func55 (by kernel_rfl) rfl #[.string a0, .string (⟨#[60, 61]⟩ : ByteArray)] rfl (by (try simp only [List.map_toArray, List.map_cons, List.map_nil]); first | done | rfl | (simp only [List.length_drop, List.length_take]; rfl)) ?_; (with_reducible refine (strings_HasPrefix.calls a0 (⟨#[60, 61]⟩ : ByteArray) true _ A3.out).mono ?_); rintro e w' ⟨rfl, ⟨nd, rfl⟩⟩; refine ⟨_, rfl, ?_⟩))
      go_meet
      case rel => exact ⟨_, (true), (by first | rfl | (simp; done) | (simp [*]; done)), H', ⟨by first | omega | exact Nat.le_refl _⟩, by repeat (first | exact Drawn0.refl _ | apply Drawn0.step)⟩
    · replace c4 := Bool.eq_false_iff.mpr c4
      subst c4
      have H1 : ((strings_HasPrefix.f a0 (⟨#[62, 61]⟩ : ByteArray)).bind fun t114 => (tokens_sign.j0 k a0 t114)) = some r := by rw [if_neg (show ¬ (false = true) by decide)] at H; exact H
      clear H
      have H := H1
      clear H1
      replace H := Option.bind_eq_some_iff.mp H
      obtain ⟨t114, A50, H⟩ := H
      replace H : (tokens_sign.j0 k a0 t114) = some r := H
      have A5 := Aside0.mk A50
      clear A50
      have H' := Aside0.mk H
      clear H
      go_wp2_with (first | ((with_reducible refine gate_callee (f := 55) rfl ?_); refine goesL_ (some 5) rfl rfl Tryz.func55 (by kernel_rfl) rfl #[.string a0, .string (⟨#[60, 61]⟩ : ByteArray)] rfl (by (try simp only [List.map_toArray, List.map_cons, List.map_nil]); first | done | rfl | (simp only [List.length_drop, List.length_take]; rfl)) ?_; (with_reducible refine (strings_HasPrefix.calls a0 (⟨#[60, 61]⟩ : ByteArray) false _ A3.out).mono ?_); rintro e w' ⟨rfl, ⟨nd, rfl⟩⟩; refine ⟨_, rfl, ?_⟩) | (go_at_call 55; (with_reducible refine (strings_HasPrefix.calls a0 (⟨#[62, 61]⟩ : ByteArray) t114 _ A5.out).mono ?_); rintro e w' ⟨rfl, ⟨nd, rfl⟩⟩))
      go_meet
      case rel => exact ⟨_, (t114), (by first | rfl | (simp; done) | (simp [*]; done)), H', ⟨by first | omega | exact Nat.le_refl _⟩, by repeat (first | exact Drawn0.refl _ | apply Drawn0.step)⟩
  case rest =>
    clear HC2
    try clear c1
    try clear p2
    try clear c4
    try clear c5
    obtain ⟨kq, x3_1, rfl, HA, HJ1, ⟨mc1, rfl⟩⟩ := hcut
    cases kq with
    | zero => exact absurd HA.out (by simp [tokens_sign.j0])
    | succ kj1 =>
      have H := HA.out
      clear HA
      simp only [tokens_sign.j0] at H
      by_cases c6 : x3_1 = true
      · subst c6
        have H1 : (some 2) = some r := by rw [if_pos rfl] at H; exact H
        clear H
        have H := H1
        clear H1
        obtain rfl := Option.some.inj H
        go_wp2
        go_ret
        exact ⟨by first | rfl | (simp; done) | (simp [*]; done), by repeat (first | exact Drawn0.refl _ | apply Drawn0.step)⟩
      · replace c6 := Bool.eq_false_iff.mpr c6
        subst c6
        have H1 : (if 0 < (a0.size : Int) then ((strings_IndexByte.f (⟨#[43, 45, 42, 47, 44, 58, 59, 61, 40, 41, 91, 93]⟩ : ByteArray) (bt a0 0)).bind fun t115 => (if t115 ≥ 0 then (some 1) else (some 0))) else (none)) = some r := by rw [if_neg (show ¬ (false = true) by decide)] at H; exact H
        clear H
        have H := H1
        clear H1
        by_cases c7 : 0 < (a0.size : Int)
        · rw [if_pos c7] at H
          have c7b0 : decide (0 < (a0.size : Int)) = true := decide_eq_true c7
          have c7b1 : decide (0 < a0.size) = true := decide_eq_true (by omega)
          clear c7
          replace H := Option.bind_eq_some_iff.mp H
          obtain ⟨t115, A90, H⟩ := H
          replace H : (if t115 ≥ 0 then (some 1) else (some 0)) = some r := H
          have A9 := Aside0.mk A90
          clear A90
          by_cases c10 : t115 ≥ 0
          · rw [if_pos c10] at H
            have c10b0 : decide (0 ≤ t115) = true := decide_eq_true c10
            clear c10
            obtain rfl := Option.some.inj H
            have p8 : 0 ≤ (0 : Int) := (by omega)
            have q8 : 0 < a0.size := (by have : (0 : Int) < (a0.size : Int) := of_decide_eq_true (by first | (with_reducible assumption) | assumption); omega)
            have hx8 : ∀ h : 0 < a0.size, ((a0[0]'h).toNat : Int) = bt a0 0 := bt_at a0 0
            clear p8
            have qi8 : (0 < (a0.size : Int)) = True := eq_true (of_decide_eq_true (by first | (with_reducible assumption) | assumption))
            replace q8 := eq_true q8
            go_wp2_with (first | ((with_reducible refine gate_callee (f := 56) rfl ?_); refine goesL_ (some 13) rfl rfl Tryz.func56 (by kernel_rfl) rfl #[.string (⟨#[43, 45, 42, 47, 44, 58, 59, 61, 40, 41, 91, 93]⟩ : ByteArray), .int .u8 (bt a0 0)] rfl (by (try simp only [List.map_toArray, List.map_cons, List.map_nil]); first | done | rfl | (simp only [List.length_drop, List.length_take]; rfl)) ?_; (with_reducible refine (strings_IndexByte.calls (⟨#[43, 45, 42, 47, 44, 58, 59, 61, 40, 41, 91, 93]⟩ : ByteArray) (bt a0 0) t115 _ A9.out).mono ?_); rintro e w' ⟨rfl, ⟨nd, rfl⟩⟩; refine ⟨_, rfl, ?_⟩))
            go_ret
            exact ⟨by first | rfl | (simp; done) | (simp [*]; done), by repeat (first | exact Drawn0.refl _ | apply Drawn0.step)⟩
          · rw [if_neg c10] at H
            have c10b0 : decide (0 ≤ t115) = false := decide_eq_false c10
            clear c10
            obtain rfl := Option.some.inj H
            have p8 : 0 ≤ (0 : Int) := (by omega)
            have q8 : 0 < a0.size := (by have : (0 : Int) < (a0.size : Int) := of_decide_eq_true (by first | (with_reducible assumption) | assumption); omega)
            have hx8 : ∀ h : 0 < a0.size, ((a0[0]'h).toNat : Int) = bt a0 0 := bt_at a0 0
            clear p8
            have qi8 : (0 < (a0.size : Int)) = True := eq_true (of_decide_eq_true (by first | (with_reducible assumption) | assumption))
            replace q8 := eq_true q8
            go_wp2_with (first | ((with_reducible refine gate_callee (f := 56) rfl ?_); refine goesL_ (some 13) rfl rfl Tryz.func56 (by kernel_rfl) rfl #[.string (⟨#[43, 45, 42, 47, 44, 58, 59, 61, 40, 41, 91, 93]⟩ : ByteArray), .int .u8 (bt a0 0)] rfl (by (try simp only [List.map_toArray, List.map_cons, List.map_nil]); first | done | rfl | (simp only [List.length_drop, List.length_take]; rfl)) ?_; (with_reducible refine (strings_IndexByte.calls (⟨#[43, 45, 42, 47, 44, 58, 59, 61, 40, 41, 91, 93]⟩ : ByteArray) (bt a0 0) t115 _ A9.out).mono ?_); rintro e w' ⟨rfl, ⟨nd, rfl⟩⟩; refine ⟨_, rfl, ?_⟩))
            go_ret
            exact ⟨by first | rfl | (simp; done) | (simp [*]; done), by repeat (first | exact Drawn0.refl _ | apply Drawn0.step)⟩
        · rw [if_neg c7] at H
          exact absurd H (by simp)

end Go.Proofs.YtgebfcdpbeaknaaGreatDoor.X
end

/-! #### X12 -/
section

namespace Go.Proofs.YtgebfcdpbeaknaaGreatDoor.X
open Go.RowKit Go.Proofs.YtgebfcdpbeaknaaGreatDoorW.PrintWords Go.Proofs.YtgebfcdpbeaknaaGreatDoorW.PrintLast Go.Proofs.YtgebfcdpbeaknaaGreatDoorW.PrintMore
attribute [local go_sem] max2_int min2_int max_two min_two max_three min_three max_four min_four   -- for this text's walks alone
set_option linter.unusedVariables false
set_option linter.unusedSimpArgs false

/-! ### stringslite_Index: function 89 -/
-- by hand: stringslite_Index.tpl
/-- at a text of one byte -/
def stringslite_Index.f (a0 a1 : ByteArray) : Option (Int) :=
  match a1.data.toList with
  | [c] => some (Lib.indexByte a0.data.toList c)
  | _ => none
theorem stringslite_Index.calls (a0 a1 : ByteArray) (r : Int) (w : World) (h : stringslite_Index.f a0 a1 = some r) :
    Calls Tryz.prog 89 #[.string a0, .string a1] w fun e w' => e = .returned (.int .i64 r) ∧ Drawn0 w w' := by
  unfold stringslite_Index.f at h
  split at h
  · rename_i c hc
    obtain rfl : a1 = ⟨#[c]⟩ := by cases a1; rename_i d; cases d; simp at hc; simp [hc]
    obtain rfl := Option.some.inj h
    exact (Tryz.stringslite_Index_one a0 c w).mono fun e w' ⟨h1, h2⟩ => ⟨h1, h2 ▸ Drawn0.refl _⟩
  · cases h

end Go.Proofs.YtgebfcdpbeaknaaGreatDoor.X
end

/-! #### X13 -/
section

namespace Go.Proofs.YtgebfcdpbeaknaaGreatDoor.X
open Go.RowKit Go.Proofs.YtgebfcdpbeaknaaGreatDoorW.PrintWords Go.Proofs.YtgebfcdpbeaknaaGreatDoorW.PrintLast Go.Proofs.YtgebfcdpbeaknaaGreatDoorW.PrintMore
attribute [local go_sem] max2_int min2_int max_two min_two max_three min_three max_four min_four   -- for this text's walks alone
set_option linter.unusedVariables false
set_option linter.unusedSimpArgs false

/-! ### stringslite_Cut: function 58 -/
def stringslite_Cut.f (a0 : ByteArray) (a1 : ByteArray) : Option (ByteArray × ByteArray × Bool) := (stringslite_Index.f a0 a1).bind fun t116 => (if t116 ≥ 0 then (if 0 ≤ t116 then (if t116 ≤ (a0.size : Int) then (if 0 ≤ (wrap64 (t116 + (a1.size : Int))) then (if (wrap64 (t116 + (a1.size : Int))) ≤ (a0.size : Int) then (some (a0.extract 0 (t116 : Int).toNat, a0.extract ((wrap64 (t116 + (a1.size : Int))) : Int).toNat a0.size, true)) else (none)) else (none)) else (none)) else (none)) else (some (a0, (⟨#[]⟩ : ByteArray), false)))
set_option maxHeartbeats 8000000 in
set_option maxRecDepth 100000 in
theorem stringslite_Cut.calls (a0 : ByteArray) (a1 : ByteArray) (r1 : ByteArray) (r2 : ByteArray) (r3 : Bool) (w : World) (h : stringslite_Cut.f a0 a1 = some (r1, r2, r3)) :
    Calls Tryz.prog 58 #[.string a0, .string a1] w fun e w' => e = .returned (.tuple #[.string r1, .string r2, .bool r3]) ∧ Drawn0 w w' := by
  have H : ((stringslite_Index.f a0 a1).bind fun t116 => (if t116 ≥ 0 then (if 0 ≤ t116 then (if t116 ≤ (a0.size : Int) then (if 0 ≤ (wrap64 (t116 + (a1.size : Int))) then (if (wrap64 (t116 + (a1.size : Int))) ≤ (a0.size : Int) then (some (a0.extract 0 (t116 : Int).toNat, a0.extract ((wrap64 (t116 + (a1.size : Int))) : Int).toNat a0.size, true)) else (none)) else (none)) else (none)) else (none)) else (some (a0, (⟨#[]⟩ : ByteArray), false)))) = some (r1, r2, r3) := h
  clear h
  replace H := Option.bind_eq_some_iff.mp H
  obtain ⟨t116, A30, H⟩ := H
  replace H : (if t116 ≥ 0 then (if 0 ≤ t116 then (if t116 ≤ (a0.size : Int) then (if 0 ≤ (wrap64 (t116 + (a1.size : Int))) then (if (wrap64 (t116 + (a1.size : Int))) ≤ (a0.size : Int) then (some (a0.extract 0 (t116 : Int).toNat, a0.extract ((wrap64 (t116 + (a1.size : Int))) : Int).toNat a0.size, true)) else (none)) else (none)) else (none)) else (none)) else (some (a0, (⟨#[]⟩ : ByteArray), false))) = some (r1, r2, r3) := H
  have A3 := Aside0.mk A30
  clear A30
  by_cases c4 : t116 ≥ 0
  · rw [if_pos c4] at H
    have c4b0 : decide (0 ≤ t116) = true := decide_eq_true c4
    clear c4
    by_cases c5 : 0 ≤ t116
    · rw [if_pos c5] at H
      have c5b0 := eq_true c5
      have c5b1 : decide (0 ≤ t116) = true := decide_eq_true c5
      clear c5
      by_cases c6 : t116 ≤ (a0.size : Int)
      · rw [if_pos c6] at H
        have c6b0 := eq_true c6
        have c6b1 : decide (t116 ≤ (a0.size : Int)) = true := decide_eq_true c6
        clear c6
        obtain ⟨ji7, hji7⟩ : ∃ j_ : Int, (wrap64 (t116 + (a1.size : Int))) = j_ := ⟨_, rfl⟩
        replace H : (if 0 ≤ (ji7) then (if (ji7) ≤ (a0.size : Int) then (some (a0.extract 0 (t116 : Int).toNat, a0.extract ((ji7) : Int).toNat a0.size, true)) else (none)) else (none)) = some (r1, r2, r3) := by first | (rw [hji7] at H; exact H) | (simp only [hji7] at H ⊢; exact H)
        (try rw [hji7] at A3)
        have hji7w : (IntKind.i64.wrap (t116 + (a1.size : Int))) = ji7 := (i64_w _).trans hji7
        by_cases c8 : 0 ≤ (ji7)
        · rw [if_pos c8] at H
          have c8b0 := eq_true c8
          have c8b1 : decide (0 ≤ (ji7)) = true := decide_eq_true c8
          clear c8
          by_cases c9 : (ji7) ≤ (a0.size : Int)
          · rw [if_pos c9] at H
            have c9b0 := eq_true c9
            have c9b1 : decide ((ji7) ≤ (a0.size : Int)) = true := decide_eq_true c9
            clear c9
            simp only [Option.some.injEq, Prod.mk.injEq] at H
            obtain ⟨rfl, rfl, rfl⟩ := H
            go_enter Tryz.func58, Tryz.ntmps58
            go_wp2_with (first | (go_at_call 89; (with_reducible refine (stringslite_Index.calls a0 a1 t116 _ A3.out).mono ?_); rintro e w' ⟨rfl, ⟨nd, rfl⟩⟩; (try first | exact ⟨rfl, _, World.drewN_drewN _ _ _⟩ | exact ⟨rfl, _, Eq.trans (World.drewN_drewN _ _ _) (congrArg (World.drewN _) (Nat.add_assoc _ _ _))⟩)))
            repeat (go_quiet (first | (go_at_call 89; (with_reducible refine (stringslite_Index.calls a0 a1 t116 _ A3.out).mono ?_); rintro e w' ⟨rfl, ⟨nd, rfl⟩⟩; (try first | exact ⟨rfl, _, World.drewN_drewN _ _ _⟩ | exact ⟨rfl, _, Eq.trans (World.drewN_drewN _ _ _) (congrArg (World.drewN _) (Nat.add_assoc _ _ _))⟩))); try go_wp2_with (first | (go_at_call 89; (with_reducible refine (stringslite_Index.calls a0 a1 t116 _ A3.out).mono ?_); rintro e w' ⟨rfl, ⟨nd, rfl⟩⟩; (try first | exact ⟨rfl, _, World.drewN_drewN _ _ _⟩ | exact ⟨rfl, _, Eq.trans (World.drewN_drewN _ _ _) (congrArg (World.drewN _) (Nat.add_assoc _ _ _))⟩))))
            go_ret3
            exact ⟨by first | rfl | (simp; done) | (simp only [← hji7] <;> (first | rfl | simp)) | (simp [*]; done), by repeat (first | exact Drawn0.refl _ | apply Drawn0.step)⟩
          · rw [if_neg c9] at H
            exact absurd H (by simp)
        · rw [if_neg c8] at H
          exact absurd H (by simp)
      · rw [if_neg c6] at H
        exact absurd H (by simp)
    · rw [if_neg c5] at H
      exact absurd H (by simp)
  · rw [if_neg c4] at H
    have c4b0 : decide (0 ≤ t116) = false := decide_eq_false c4
    clear c4
    simp only [Option.some.injEq, Prod.mk.injEq] at H
    obtain ⟨rfl, rfl, rfl⟩ := H
    go_enter Tryz.func58, Tryz.ntmps58
    go_wp2_with (first | (go_at_call 89; (with_reducible refine (stringslite_Index.calls a0 a1 t116 _ A3.out).mono ?_); rintro e w' ⟨rfl, ⟨nd, rfl⟩⟩; (try first | exact ⟨rfl, _, World.drewN_drewN _ _ _⟩ | exact ⟨rfl, _, Eq.trans (World.drewN_drewN _ _ _) (congrArg (World.drewN _) (Nat.add_assoc _ _ _))⟩)))
    repeat (go_quiet (first | (go_at_call 89; (with_reducible refine (stringslite_Index.calls a0 a1 t116 _ A3.out).mono ?_); rintro e w' ⟨rfl, ⟨nd, rfl⟩⟩; (try first | exact ⟨rfl, _, World.drewN_drewN _ _ _⟩ | exact ⟨rfl, _, Eq.trans (World.drewN_drewN _ _ _) (congrArg (World.drewN _) (Nat.add_assoc _ _ _))⟩))); try go_wp2_with (first | (go_at_call 89; (with_reducible refine (stringslite_Index.calls a0 a1 t116 _ A3.out).mono ?_); rintro e w' ⟨rfl, ⟨nd, rfl⟩⟩; (try first | exact ⟨rfl, _, World.drewN_drewN _ _ _⟩ | exact ⟨rfl, _, Eq.trans (World.drewN_drewN _ _ _) (congrArg (World.drewN _) (Nat.add_assoc _ _ _))⟩))))
    go_ret3
    exact ⟨by first | rfl | (simp; done) | (simp [*]; done), by repeat (first | exact Drawn0.refl _ | apply Drawn0.step)⟩

end Go.Proofs.YtgebfcdpbeaknaaGreatDoor.X
end

/-! #### X14 -/
section

namespace Go.Proofs.YtgebfcdpbeaknaaGreatDoor.X
open Go.RowKit Go.Proofs.YtgebfcdpbeaknaaGreatDoorW.PrintWords Go.Proofs.YtgebfcdpbeaknaaGreatDoorW.PrintLast Go.Proofs.YtgebfcdpbeaknaaGreatDoorW.PrintMore
attribute [local go_sem] max2_int min2_int max_two min_two max_three min_three max_four min_four   -- for this text's walks alone
set_option linter.unusedVariables false
set_option linter.unusedSimpArgs false

/-! ### strings_Cut: function 13 -/
def strings_Cut.f (a0 : ByteArray) (a1 : ByteArray) : Option (ByteArray × ByteArray × Bool) := (stringslite_Cut.f a0 a1).bind fun bt117 => (some (bt117.1, bt117.2.1, bt117.2.2))
set_option maxHeartbeats 8000000 in
set_option maxRecDepth 100000 in
theorem strings_Cut.calls (a0 : ByteArray) (a1 : ByteArray) (r1 : ByteArray) (r2 : ByteArray) (r3 : Bool) (w : World) (h : strings_Cut.f a0 a1 = some (r1, r2, r3)) :
    Calls Tryz.prog 13 #[.string a0, .string a1] w fun e w' => e = .returned (.tuple #[.string r1, .string r2, .bool r3]) ∧ Drawn0 w w' := by
  have H : ((stringslite_Cut.f a0 a1).bind fun bt117 => (some (bt117.1, bt117.2.1, bt117.2.2))) = some (r1, r2, r3) := h
  clear h
  replace H := Option.bind_eq_some_iff.mp H
  obtain ⟨⟨t117, t118, t119⟩, A30, H⟩ := H
  replace H : (some (t117, t118, t119)) = some (r1, r2, r3) := H
  have A3 := Aside0.mk A30
  clear A30
  simp only [Option.some.injEq, Prod.mk.injEq] at H
  obtain ⟨rfl, rfl, rfl⟩ := H
  go_enter Tryz.func13, Tryz.ntmps13
  go_wp2_with (first | ((with_reducible refine gate_callee (f := 58) rfl ?_); refine goesL_ (some 9) rfl rfl Tryz.func58 (by kernel_rfl) rfl #[.string a0, .string a1] rfl (by (try simp only [List.map_toArray, List.map_cons, List.map_nil]); first | done | rfl | (simp only [List.length_drop, List.length_take]; rfl)) ?_; (with_reducible refine (stringslite_Cut.calls a0 a1 t117 t118 t119 _ A3.out).mono ?_); rintro e w' ⟨rfl, ⟨nd, rfl⟩⟩; refine ⟨_, rfl, ?_⟩))
  go_ret3
  exact ⟨by first | rfl | (simp; done) | (simp [*]; done), by repeat (first | exact Drawn0.refl _ | apply Drawn0.step)⟩

end Go.Proofs.YtgebfcdpbeaknaaGreatDoor.X
end

/-! #### X15 -/
section

namespace Go.Proofs.YtgebfcdpbeaknaaGreatDoor.X
open Go.RowKit Go.Proofs.YtgebfcdpbeaknaaGreatDoorW.PrintWords Go.Proofs.YtgebfcdpbeaknaaGreatDoorW.PrintLast Go.Proofs.YtgebfcdpbeaknaaGreatDoorW.PrintMore
attribute [local go_sem] max2_int min2_int max_two min_two max_three min_three max_four min_four   -- for this text's walks alone
set_option linter.unusedVariables false
set_option linter.unusedSimpArgs false

/-! ### tokens_Read: function 4 -/
-- by hand: tokens_Read.tpl
def tokens_Read.pick (k : Nat) (s : ByteArray) : Option (Int × Int) :=
  (tokens_word.f s).bind fun n0 => if n0 > 0 then some (1, n0) else
  (tokens_number.f s).bind fun n1 => if n1 > 0 then some (2, n1) else
  (tokens_sign.f k s).bind fun n2 => if n2 > 0 then some (3, n2) else some (0, 0)
def tokens_Read.l0 : Nat → ByteArray → List S52 → Int → Option (List S52 × Int × Int)
  | 0, _, _, _ => none
  | k + 1, a0, l, p => if p < (a0.size : Int) then (if 0 ≤ p then
      ((tokens_run.f (a0.extract p.toNat a0.size) ⟨#[32, 9, 10, 13]⟩).bind fun n => if n > 0 then tokens_Read.l0 k a0 l (wrap64 (p + n)) else
       if 0 < ((a0.extract p.toNat a0.size).size : Int) then (if bt (a0.extract p.toNat a0.size) 0 = 35 then ((strings_Cut.f (a0.extract p.toNat a0.size) ⟨#[10]⟩).bind fun c => tokens_Read.l0 k a0 l (wrap64 (p + (c.1.size : Int))))
       else ((tokens_Read.pick k (a0.extract p.toNat a0.size)).bind fun q => if q.1 > 0 then (if 0 ≤ q.2 then (if q.2 ≤ ((a0.extract p.toNat a0.size).size : Int) then (if l.length < 4398046511104 then tokens_Read.l0 k a0 (l ++ [⟨q.1, (a0.extract p.toNat a0.size).extract 0 q.2.toNat, p⟩]) (wrap64 (p + q.2)) else none) else none) else none) else some ([], p, 4))) else none) else none)
    else some (l, 0, 0)
def tokens_Read.f (k : Nat) (a0 : ByteArray) : Option (List (S52) × Int × Int) := if (a0.size : Int) > 65536 then some ([], 0, 3) else tokens_Read.l0 k a0 [] 0
theorem tokens_Read.pick_mono (k : Nat) (s : ByteArray) : LeO (tokens_Read.pick k s) (tokens_Read.pick (k + 1) s) := by
  unfold tokens_Read.pick
  repeat' first
  | (with_reducible exact tokens_sign.mono _ _)
  | (with_reducible exact LeO.refl _)
  | (with_reducible refine LeO.ite ?_ ?_)
  | (with_reducible refine LeO.bind ?_ (fun _ => ?_))
theorem tokens_Read.mono_l : ∀ k, ∀ y0 y1 y2, LeO (tokens_Read.l0 k y0 y1 y2) (tokens_Read.l0 (k + 1) y0 y1 y2)
  | 0 => fun _ _ _ r h => by simp [tokens_Read.l0] at h
  | k + 1 => by
    have ih0 := tokens_Read.mono_l k
    intro y0 y1 y2
    unfold tokens_Read.l0
    repeat' first
    | (with_reducible exact ih0 _ _ _)
    | (with_reducible exact tokens_Read.pick_mono _ _)
    | (with_reducible exact LeO.refl _)
    | (with_reducible refine LeO.ite ?_ ?_)
    | (with_reducible refine LeO.bind ?_ (fun _ => ?_))
theorem tokens_Read.mono : ∀ a0 k, LeO (tokens_Read.f k a0) (tokens_Read.f (k + 1) a0) := by
  intro a0 k
  unfold tokens_Read.f
  repeat' first
  | (with_reducible exact tokens_Read.mono_l k _ _ _)
  | (with_reducible exact LeO.refl _)
  | (with_reducible refine LeO.ite ?_ ?_)
def tokens_Read.cells : Array Value := #[.int .u8 1, .func (.func 9) #[] #[], .int .u8 2, .func (.func 10) #[] #[], .int .u8 3, .func (.func 11) #[] #[]]
set_option maxHeartbeats 4000000 in
set_option maxRecDepth 100000 in
theorem tokens_Read.calls (k : Nat) (a0 : ByteArray) (r1 : List (S52)) (r2 : Int) (r3 : Int) (w : World) (h : tokens_Read.f k a0 = some (r1, r2, r3)) :
    Calls Tryz.prog 4 #[.string a0] w fun e w' => ∃ v0_ : Value, e = .returned (.tuple #[v0_, .int .i64 r2, .int .i64 r3]) ∧ Kd.R k52 52 w' w.heap.size (fun _ => True) v0_ r1 ∧ Below w.heap.size w w' := by
  unfold tokens_Read.f at h
  by_cases hs : (a0.size : Int) > 65536
  · rw [if_pos hs] at h
    simp only [Option.some.injEq, Prod.mk.injEq] at h
    obtain ⟨rfl, rfl, rfl⟩ := h
    have c2b0 : decide (65536 < (a0.size : Int)) = true := decide_eq_true hs
    have c2b1 : decide (65536 < a0.size) = true := decide_eq_true (by omega)
    clear hs
    go_enter Tryz.func4, Tryz.ntmps4
    go_wp2
    go_step3
    go_wp2
    rw [Exit.noGoto_ret]
    go_ret3
    exact ⟨_, rfl, Kd.R_nil _ _ _ _ _, Below.refl _ _⟩
  · rw [if_neg hs] at h
    have c2b0 : decide (65536 < (a0.size : Int)) = false := decide_eq_false hs
    have c2b1 : decide (65536 < a0.size) = false := decide_eq_false (by omega)
    have HS := Aside0.mk (show a0.size ≤ 65536 by omega)
    clear hs
    have H := Aside0.mk h
    clear h
    go_enter Tryz.func4, Tryz.ntmps4
    have hu67 := Tryz.underlying46
    have hu68 := Tryz.underlying47
    go_wp2
    go_step3
    go_wp2
    go_step3
    go_wp2
    go_loopg [2, 3] k (fun kq v2 v3 w' => ∃ (x2 : List S52) (x3 : Int), v3 = .int .i64 x3 ∧ Aside0 (tokens_Read.l0 kq a0 x2 x3 = some (r1, r2, r3)) ∧ Aside0 (kq ≤ k) ∧ Aside0 (Kd.R k52 52 w' w.heap.size (fun b => b ≠ w.heap.size) v2 x2) ∧ Aside0 (w'.heap[w.heap.size]? = some (.cells tokens_Read.cells 47 (0, 0))) ∧ Aside0 (Below w.heap.size w w'))
    case atStart => exact ⟨[], 0, rfl, H, ⟨Nat.le_refl _⟩, ⟨Kd.R_nil _ _ _ _ _⟩, ⟨heap_alloc_new _ _⟩, ⟨(Below.refl _ _).alloc (Nat.le_refl _) _⟩⟩
    case round =>
      clear H c2b0 c2b1
      obtain ⟨x2, x3, rfl, HA, HK, HO, HC, HB⟩ := hrel
      cases gk with
      | zero => exact absurd HA.out (by simp [tokens_Read.l0])
      | succ k1 =>
        have H := HA.out
        clear HA
        simp only [tokens_Read.l0] at H
        by_cases c3 : x3 < (a0.size : Int)
        · rw [if_pos c3] at H
          have c3b0 : decide (x3 < (a0.size : Int)) = true := decide_eq_true c3
          by_cases c4 : 0 ≤ x3
          · rw [if_pos c4] at H
            have c4b0 := eq_true c4
            have c4b1 := eq_true (show x3 ≤ (a0.size : Int) by omega)
            replace H := Option.bind_eq_some_iff.mp H
            obtain ⟨n, A5, H⟩ := H
            have A5 := Aside0.mk A5
            have hlt : w.heap.size < wr.heap.size := (Array.getElem?_eq_some_iff.1 HC.out).1
            have HL := Aside0.mk hlt
            clear hlt c3 c4
            obtain ⟨rest, hrest⟩ : ∃ rest, rest = a0.extract x3.toNat a0.size := ⟨_, rfl⟩
            have HR := Aside0.mk hrest
            rw [← hrest] at H A5
            clear hrest
            go_wp2_with fail
            rw [← HR.out]
            refine (tokens_run.calls _ _ _ _ A5.out).mono ?_
            rintro e w5 ⟨rfl, hb5⟩
            have HO5 := Aside0.mk (Kd.R_below HO.out hb5)
            have HC5 := Aside0.mk ((hb5.block _ HL.out).trans HC.out)
            have HB5 := Aside0.mk (below_step HB.out hb5)
            clear HO HC HB A5 hb5
            by_cases c6 : n > 0
            · rw [if_pos c6] at H
              have c6b0 : decide (0 < n) = true := decide_eq_true c6
              have H := Aside0.mk H
              go_wp2
              go_roundg k1
              case measure => have := HK.out; omega
              case rel => exact ⟨_, _, rfl, H, ⟨by have := HK.out; omega⟩, HO5, HC5, HB5⟩
            · rw [if_neg c6] at H
              have c6b0 : decide (0 < n) = false := decide_eq_false c6
              clear c6
              by_cases c7 : 0 < (rest.size : Int)
              · rw [if_pos c7] at H
                have c7b0 := eq_true c7
                have c7b1 := decide_eq_true c7
                have c7b2 : decide (0 < rest.size) = true := decide_eq_true (by omega)
                clear c7
                by_cases c8 : bt rest 0 = 35
                · rw [if_pos c8] at H
                  have c8b0 : (bt rest 0 == 35) = true := beq_iff_eq.mpr c8
                  clear c8
                  have hb0 := Aside0.mk (bt_at rest 0)
                  replace H := Option.bind_eq_some_iff.mp H
                  obtain ⟨⟨s1, s2, b3⟩, A9, H⟩ := H
                  have A9 := Aside0.mk A9
                  have H := Aside0.mk (show tokens_Read.l0 k1 a0 x2 (wrap64 (x3 + (s1.size : Int))) = some (r1, r2, r3) from H)
                  have hx0 : ∀ h : 0 < rest.size, ((rest[0]'h).toNat : Int) = bt rest 0 := bt_at rest 0
                  have c7n : 0 < rest.size := of_decide_eq_true c7b2
                  go_wp2_with fail
                  refine (strings_Cut.calls _ _ _ _ _ _ A9.out).mono ?_
                  rintro e w6 ⟨rfl, ⟨m, rfl⟩⟩
                  have HO6 := Aside0.mk (Kd.R_drewN HO5.out m)
                  have HC6 := Aside0.mk (show (w5.drewN m).heap[w.heap.size]? = _ from HC5.out)
                  have HB6 := Aside0.mk (pw_below_drewN HB5.out m)
                  clear HO5 HC5 HB5 A9
                  go_wp2
                  go_roundg k1
                  case measure => have := HK.out; omega
                  case rel => exact ⟨_, _, rfl, H, ⟨by have := HK.out; omega⟩, HO6, HC6, HB6⟩
                · rw [if_neg c8] at H
                  have c8b0 : (bt rest 0 == 35) = false := beq_eq_false_iff_ne.mpr c8
                  clear c8
                  have hx0 : ∀ h : 0 < rest.size, ((rest[0]'h).toNat : Int) = bt rest 0 := bt_at rest 0
                  have c7n : 0 < rest.size := of_decide_eq_true c7b2
                  replace H := Option.bind_eq_some_iff.mp H
                  obtain ⟨⟨q1, q2⟩, A9, H⟩ := H
                  have hc0 : w5.cell? ⟨w.heap.size, 0, none⟩ = some (.int .u8 1) := blk_cell HC5.out 0
                  have hc1 : w5.cell? ⟨w.heap.size, 1, none⟩ = some (.func (.func 9) #[] #[]) := blk_cell HC5.out 1
                  have hc2 : w5.cell? ⟨w.heap.size, 2, none⟩ = some (.int .u8 2) := blk_cell HC5.out 2
                  have hc3 : w5.cell? ⟨w.heap.size, 3, none⟩ = some (.func (.func 10) #[] #[]) := blk_cell HC5.out 3
                  have hc4 : w5.cell? ⟨w.heap.size, 4, none⟩ = some (.int .u8 3) := blk_cell HC5.out 4
                  have hc5 : w5.cell? ⟨w.heap.size, 5, none⟩ = some (.func (.func 11) #[] #[]) := blk_cell HC5.out 5
                  have i0 : ∀ w, (Instr.index 47 (.agg tokens_Read.cells) (.int .i64 0)).run Tryz.prog w = .ok (.agg #[.int .u8 1, .func (.func 9) #[] #[]]) w := fun _ => by kernel_rfl
                  have i1 : ∀ w, (Instr.index 47 (.agg tokens_Read.cells) (.int .i64 1)).run Tryz.prog w = .ok (.agg #[.int .u8 2, .func (.func 10) #[] #[]]) w := fun _ => by kernel_rfl
                  have i2 : ∀ w, (Instr.index 47 (.agg tokens_Read.cells) (.int .i64 2)).run Tryz.prog w = .ok (.agg #[.int .u8 3, .func (.func 11) #[] #[]]) w := fun _ => by kernel_rfl
                  unfold tokens_Read.cells at i0 i1 i2
                  unfold tokens_Read.pick at A9
                  go_wp2_with fail
                  refine wp_loop_rounds 4 ?_
                  replace A9 := Option.bind_eq_some_iff.mp A9
                  obtain ⟨n0, B0, A9⟩ := A9
                  have B0 := Aside0.mk B0
                  rw [rounds_succ]
                  go_wp2_with fail
                  refine (tokens_word.calls rest n0 _ B0.out).mono ?_
                  rintro e w60 ⟨rfl, hb⟩
                  have hk0 : w60.cell? ⟨w5.heap.size, 0, none⟩ = some (.int .u8 1) := (hb.cell (p := ⟨w5.heap.size, 0, none⟩) (by simp)).trans (blk_cell (heap_alloc_new _ _) 0)
                  have HO60 := Aside0.mk (Kd.R_below (Kd.R_alloc HO5.out _) hb)
                  have HB60 := Aside0.mk (below_step (below_alloc HB5.out _) hb)
                  have HC60 := Aside0.mk ((hb.block w.heap.size (by have := HB5.out.size; have := (Array.getElem?_eq_some_iff.1 HC5.out).1; simp; omega)).trans ((below_alloc (Below.refl _ _) _).block w.heap.size (Array.getElem?_eq_some_iff.1 HC5.out).1 |>.trans HC5.out))
                  clear HO5 HB5 HC5 hb B0
                  by_cases d0 : n0 > 0
                  · rw [if_pos d0] at A9
                    have d0b0 : decide (0 < n0) = true := decide_eq_true d0
                    obtain ⟨rfl, rfl⟩ : 1 = q1 ∧ n0 = q2 := by simpa using A9
                    clear A9 hc0 hc1 hc2 hc3 hc4 hc5
                    rw [if_pos (by decide)] at H
                    by_cases e1 : 0 ≤ n0
                    rotate_left
                    · rw [if_neg e1] at H; exact absurd H (by simp)
                    rw [if_pos e1] at H
                    by_cases e2 : n0 ≤ (rest.size : Int)
                    rotate_left
                    · rw [if_neg e2] at H; exact absurd H (by simp)
                    rw [if_pos e2] at H
                    by_cases e3 : x2.length < 4398046511104
                    rotate_left
                    · rw [if_neg e3] at H; exact absurd H (by simp)
                    rw [if_pos e3] at H
                    have H := Aside0.mk H
                    have E3 := Aside0.mk e3
                    have e1b := eq_true e1
                    have e2b := eq_true e2
                    clear e1 e2 e3 d0
                    go_wp2_with fail
                    refine start_ (n := 11) (S := fun w' => w'.cell? ⟨w5.heap.size, 0, none⟩ = some (.int .u8 1)) (ds := [9]) #[false, false, false, false, false, false, false, false, false, false, false] (by kernel_rfl) rfl rfl (hk0) (fun hHeld => ?_)
                    refine pure_ (i := 0) (N := some 58) (v := ?_) (a' := ?_) #[true, false, false, false, false, false, false, false, false, false, false] rfl rfl (by kernel_rfl) (fun _ _ _ h => h) (Or.inl ⟨by rfl, ?_⟩) ?_ ?_
                    rotate_left
                    · intro w'
                      go_simp
                      with_reducible rfl
                    rotate_left
                    · simp only [Act.put, List.setIfInBounds_toArray, List.set_cons_zero, List.set_cons_succ, i64_w, i32_w]
                      rfl
                    refine pure_ (i := 1) (N := some 59) (v := ?_) (a' := ?_) #[true, true, false, false, false, false, false, false, false, false, false] rfl rfl (by kernel_rfl) (fun _ _ _ h => h) (Or.inl ⟨by rfl, ?_⟩) ?_ ?_
                    rotate_left
                    · intro w'
                      go_simp
                      with_reducible rfl
                    rotate_left
                    · simp only [Act.put, List.setIfInBounds_toArray, List.set_cons_zero, List.set_cons_succ, i64_w, i32_w]
                      rfl
                    refine pure_ (i := 3) (N := some 61) (v := ?_) (a' := ?_) #[true, true, false, true, false, false, false, false, false, false, false] rfl rfl (by kernel_rfl) (fun _ _ _ h => h) (Or.inl ⟨by rfl, ?_⟩) ?_ ?_
                    rotate_left
                    · intro w'
                      go_simp
                      with_reducible rfl
                    rotate_left
                    · simp only [Act.put, List.setIfInBounds_toArray, List.set_cons_zero, List.set_cons_succ, i64_w, i32_w]
                      rfl
                    refine pure_ (i := 4) (N := some 62) (v := ?_) (a' := ?_) #[true, true, false, true, true, false, false, false, false, false, false] rfl rfl (by kernel_rfl) (fun _ _ _ h => h) (Or.inl ⟨by rfl, ?_⟩) ?_ ?_
                    rotate_left
                    · intro w'
                      go_simp
                      with_reducible rfl
                    rotate_left
                    · simp only [Act.put, List.setIfInBounds_toArray, List.set_cons_zero, List.set_cons_succ, i64_w, i32_w]
                      rfl
                    refine pure_ (i := 5) (N := some 63) (v := ?_) (a' := ?_) #[true, true, false, true, true, true, false, false, false, false, false] rfl rfl (by kernel_rfl) (fun _ _ _ h => h) (Or.inl ⟨by rfl, ?_⟩) ?_ ?_
                    rotate_left
                    · intro w'
                      go_simp
                      with_reducible rfl
                    rotate_left
                    · simp only [Act.put, List.setIfInBounds_toArray, List.set_cons_zero, List.set_cons_succ, i64_w, i32_w]
                      rfl
                    refine pure_ (i := 6) (N := some 64) (v := ?_) (a' := ?_) #[true, true, false, true, true, true, true, false, false, false, false] rfl rfl (by kernel_rfl) (fun _ _ _ h => h) (Or.inl ⟨by rfl, ?_⟩) ?_ ?_
                    rotate_left
                    · intro w'
                      go_simp
                      with_reducible rfl
                    rotate_left
                    · simp only [Act.put, List.setIfInBounds_toArray, List.set_cons_zero, List.set_cons_succ, i64_w, i32_w]
                      rfl
                    refine take_ (i := 2) (N := some 60) (v := ?_) (a' := ?_) #[true, true, true, true, true, true, true, false, false, false, false] rfl rfl (by kernel_rfl) (fun _ _ _ h => h) (Or.inl ⟨by rfl, ?_⟩) hHeld ?_ ?_
                    rotate_left
                    · intro w' s0
                      go_simp
                      with_reducible rfl
                    rotate_left
                    · simp only [Act.put, List.setIfInBounds_toArray, List.set_cons_zero, List.set_cons_succ, i64_w, i32_w]
                      rfl
                    refine pure_ (i := 7) (N := some 65) (v := ?_) (a' := ?_) #[true, true, true, true, true, true, true, true, false, false, false] rfl rfl (by kernel_rfl) (fun _ _ _ h => h) (Or.inl ⟨by rfl, ?_⟩) ?_ ?_
                    rotate_left
                    · intro w'
                      go_simp
                      with_reducible rfl
                    rotate_left
                    · simp only [Act.put, List.setIfInBounds_toArray, List.set_cons_zero, List.set_cons_succ, i64_w, i32_w]
                      rfl
                    refine one_ (i := 8) (N := some 66) #[true, true, true, true, true, true, true, true, true, false, false] rfl rfl (by kernel_rfl) (by decide) (fun K hK => ?_)
                    refine value_ (w1 := ?_) (v := ?_) (by rfl) rfl ?_ ?_
                    rotate_left 2
                    · go_simp
                      constructor
                      · rfl
                      · rfl
                    refine hK.out _ _ ((pw_cell_below (below_alloc (below_drew (Below.refl _ _)) _) hk0)) (fun hHeld => ?_)
                    clear hK K
                    refine norm_ (a' := ?_) ?_ ?_
                    rotate_left
                    · show Act.put _ (some 66) _ = _
                      simp only [Act.put, List.setIfInBounds_toArray, List.set_cons_zero, List.set_cons_succ, i64_w, i32_w]
                      rfl
                    refine last_ (i := 9) (N := some 67) #[true, true, true, true, true, true, true, true, true, true, false] rfl rfl (by kernel_rfl) (by decide) (fun K hK => ?_)
                    refine Kd.R_append_step k52 (w0 := w) w.heap.size rfl (.tmp 58) (.tmp 66) 22 52 (.agg #[(.int .u8 0), (.string ⟨#[]⟩), (.int .i64 0)]) 32 rfl Tryz.underlying22 info52 rfl (by decide) (by omega) u2 x2 (⟨1, rest.extract 0 n0.toNat, x3⟩ : S52) [.int .u8 1, .string (rest.extract 0 n0.toNat), .int .i64 x3] (fun b => b ≠ w.heap.size) (fun _ => False) rfl rfl (k52_mkM _ _ _ (⟨1, rest.extract 0 n0.toNat, x3⟩ : S52)) (fun _ hk => hk.elim) (fun q hq => by have := (Array.getElem?_eq_some_iff.1 HC60.out).1; simp at hq; omega) (Kd.R_drew HO60.out) (below_drew HB60.out) HB60.out.size (by have := E3.out; omega) ?_
                    intro v7 w7 ho hb hg hat
                    have HO7 := Aside0.mk ho
                    have HB7 := Aside0.mk hb
                    have HC7 := Aside0.mk ((hg.block w.heap.size (by have := (Array.getElem?_eq_some_iff.1 HC60.out).1; simp; omega) (fun h => HO60.out.1 _ h.symm rfl)).trans HC60.out)
                    clear ho hb hg hat
                    refine hK.out _ _ ?_
                    clear hK K
                    refine norm_ (a' := ?_) ?_ ?_
                    rotate_left
                    · show Act.put _ (some 67) _ = _
                      simp only [Act.put, List.setIfInBounds_toArray, List.set_cons_zero, List.set_cons_succ, i64_w, i32_w]
                      rfl
                    refine pure_ (i := 10) (N := some 2) (v := ?_) (a' := ?_) #[true, true, true, true, true, true, true, true, true, true, true] rfl rfl (by kernel_rfl) (fun _ _ _ h => h) (Or.inl ⟨by rfl, ?_⟩) ?_ ?_
                    rotate_left
                    · intro w'
                      go_simp
                      with_reducible rfl
                    rotate_left
                    · simp only [Act.put, List.setIfInBounds_toArray, List.set_cons_zero, List.set_cons_succ, i64_w, i32_w]
                      rfl
                    refine done_ (by kernel_rfl) ?_
                    go_wp2
                    go_roundg k1
                    case measure => have := HK.out; omega
                    case rel => exact ⟨_, _, rfl, H, ⟨by have := HK.out; omega⟩, HO7, HC7, HB7⟩
                  · rw [if_neg d0] at A9
                    have d0b0 : decide (0 < n0) = false := decide_eq_false d0
                    clear d0
                    go_wp2_with fail
                    replace A9 := Option.bind_eq_some_iff.mp A9
                    obtain ⟨n1, B1, A9⟩ := A9
                    have B1 := Aside0.mk B1
                    rw [rounds_succ]
                    go_wp2_with fail
                    refine (tokens_number.calls rest n1 _ B1.out).mono ?_
                    rintro e w61 ⟨rfl, hb⟩
                    have hk1 : w61.cell? ⟨w60.heap.size, 0, none⟩ = some (.int .u8 2) := (hb.cell (p := ⟨w60.heap.size, 0, none⟩) (by simp)).trans (blk_cell (heap_alloc_new _ _) 0)
                    have HO61 := Aside0.mk (Kd.R_below (Kd.R_alloc HO60.out _) hb)
                    have HB61 := Aside0.mk (below_step (below_alloc HB60.out _) hb)
                    have HC61 := Aside0.mk ((hb.block w.heap.size (by have := HB60.out.size; have := (Array.getElem?_eq_some_iff.1 HC60.out).1; simp; omega)).trans ((below_alloc (Below.refl _ _) _).block w.heap.size (Array.getElem?_eq_some_iff.1 HC60.out).1 |>.trans HC60.out))
                    clear HO60 HB60 HC60 hb B1
                    by_cases d1 : n1 > 0
                    · rw [if_pos d1] at A9
                      have d1b0 : decide (0 < n1) = true := decide_eq_true d1
                      obtain ⟨rfl, rfl⟩ : 2 = q1 ∧ n1 = q2 := by simpa using A9
                      clear A9 hc0 hc1 hc2 hc3 hc4 hc5
                      rw [if_pos (by decide)] at H
                      by_cases e1 : 0 ≤ n1
                      rotate_left
                      · rw [if_neg e1] at H; exact absurd H (by simp)
                      rw [if_pos e1] at H
                      by_cases e2 : n1 ≤ (rest.size : Int)
                      rotate_left
                      · rw [if_neg e2] at H; exact absurd H (by simp)
                      rw [if_pos e2] at H
                      by_cases e3 : x2.length < 4398046511104
                      rotate_left
                      · rw [if_neg e3] at H; exact absurd H (by simp)
                      rw [if_pos e3] at H
                      have H := Aside0.mk H
                      have E3 := Aside0.mk e3
                      have e1b := eq_true e1
                      have e2b := eq_true e2
                      clear e1 e2 e3 d1
                      go_wp2_with fail
                      refine start_ (n := 11) (S := fun w' => w'.cell? ⟨w60.heap.size, 0, none⟩ = some (.int .u8 2)) (ds := [9]) #[false, false, false, false, false, false, false, false, false, false, false] (by kernel_rfl) rfl rfl (hk1) (fun hHeld => ?_)
                      refine pure_ (i := 0) (N := some 58) (v := ?_) (a' := ?_) #[true, false, false, false, false, false, false, false, false, false, false] rfl rfl (by kernel_rfl) (fun _ _ _ h => h) (Or.inl ⟨by rfl, ?_⟩) ?_ ?_
                      rotate_left
                      · intro w'
                        go_simp
                        with_reducible rfl
                      rotate_left
                      · simp only [Act.put, List.setIfInBounds_toArray, List.set_cons_zero, List.set_cons_succ, i64_w, i32_w]
                        rfl
                      refine pure_ (i := 1) (N := some 59) (v := ?_) (a' := ?_) #[true, true, false, false, false, false, false, false, false, false, false] rfl rfl (by kernel_rfl) (fun _ _ _ h => h) (Or.inl ⟨by rfl, ?_⟩) ?_ ?_
                      rotate_left
                      · intro w'
                        go_simp
                        with_reducible rfl
                      rotate_left
                      · simp only [Act.put, List.setIfInBounds_toArray, List.set_cons_zero, List.set_cons_succ, i64_w, i32_w]
                        rfl
                      refine pure_ (i := 3) (N := some 61) (v := ?_) (a' := ?_) #[true, true, false, true, false, false, false, false, false, false, false] rfl rfl (by kernel_rfl) (fun _ _ _ h => h) (Or.inl ⟨by rfl, ?_⟩) ?_ ?_
                      rotate_left
                      · intro w'
                        go_simp
                        with_reducible rfl
                      rotate_left
                      · simp only [Act.put, List.setIfInBounds_toArray, List.set_cons_zero, List.set_cons_succ, i64_w, i32_w]
                        rfl
                      refine pure_ (i := 4) (N := some 62) (v := ?_) (a' := ?_) #[true, true, false, true, true, false, false, false, false, false, false] rfl rfl (by kernel_rfl) (fun _ _ _ h => h) (Or.inl ⟨by rfl, ?_⟩) ?_ ?_
                      rotate_left
                      · intro w'
                        go_simp
                        with_reducible rfl
                      rotate_left
                      · simp only [Act.put, List.setIfInBounds_toArray, List.set_cons_zero, List.set_cons_succ, i64_w, i32_w]
                        rfl
                      refine pure_ (i := 5) (N := some 63) (v := ?_) (a' := ?_) #[true, true, false, true, true, true, false, false, false, false, false] rfl rfl (by kernel_rfl) (fun _ _ _ h => h) (Or.inl ⟨by rfl, ?_⟩) ?_ ?_
                      rotate_left
                      · intro w'
                        go_simp
                        with_reducible rfl
                      rotate_left
                      · simp only [Act.put, List.setIfInBounds_toArray, List.set_cons_zero, List.set_cons_succ, i64_w, i32_w]
                        rfl
                      refine pure_ (i := 6) (N := some 64) (v := ?_) (a' := ?_) #[true, true, false, true, true, true, true, false, false, false, false] rfl rfl (by kernel_rfl) (fun _ _ _ h => h) (Or.inl ⟨by rfl, ?_⟩) ?_ ?_
                      rotate_left
                      · intro w'
                        go_simp
                        with_reducible rfl
                      rotate_left
                      · simp only [Act.put, List.setIfInBounds_toArray, List.set_cons_zero, List.set_cons_succ, i64_w, i32_w]
                        rfl
                      refine take_ (i := 2) (N := some 60) (v := ?_) (a' := ?_) #[true, true, true, true, true, true, true, false, false, false, false] rfl rfl (by kernel_rfl) (fun _ _ _ h => h) (Or.inl ⟨by rfl, ?_⟩) hHeld ?_ ?_
                      rotate_left
                      · intro w' s0
                        go_simp
                        with_reducible rfl
                      rotate_left
                      · simp only [Act.put, List.setIfInBounds_toArray, List.set_cons_zero, List.set_cons_succ, i64_w, i32_w]
                        rfl
                      refine pure_ (i := 7) (N := some 65) (v := ?_) (a' := ?_) #[true, true, true, true, true, true, true, true, false, false, false] rfl rfl (by kernel_rfl) (fun _ _ _ h => h) (Or.inl ⟨by rfl, ?_⟩) ?_ ?_
                      rotate_left
                      · intro w'
                        go_simp
                        with_reducible rfl
                      rotate_left
                      · simp only [Act.put, List.setIfInBounds_toArray, List.set_cons_zero, List.set_cons_succ, i64_w, i32_w]
                        rfl
                      refine one_ (i := 8) (N := some 66) #[true, true, true, true, true, true, true, true, true, false, false] rfl rfl (by kernel_rfl) (by decide) (fun K hK => ?_)
                      refine value_ (w1 := ?_) (v := ?_) (by rfl) rfl ?_ ?_
                      rotate_left 2
                      · go_simp
                        constructor
                        · rfl
                        · rfl
                      refine hK.out _ _ ((pw_cell_below (below_alloc (below_drew (Below.refl _ _)) _) hk1)) (fun hHeld => ?_)
                      clear hK K
                      refine norm_ (a' := ?_) ?_ ?_
                      rotate_left
                      · show Act.put _ (some 66) _ = _
                        simp only [Act.put, List.setIfInBounds_toArray, List.set_cons_zero, List.set_cons_succ, i64_w, i32_w]
                        rfl
                      refine last_ (i := 9) (N := some 67) #[true, true, true, true, true, true, true, true, true, true, false] rfl rfl (by kernel_rfl) (by decide) (fun K hK => ?_)
                      refine Kd.R_append_step k52 (w0 := w) w.heap.size rfl (.tmp 58) (.tmp 66) 22 52 (.agg #[(.int .u8 0), (.string ⟨#[]⟩), (.int .i64 0)]) 32 rfl Tryz.underlying22 info52 rfl (by decide) (by omega) u2 x2 (⟨2, rest.extract 0 n1.toNat, x3⟩ : S52) [.int .u8 2, .string (rest.extract 0 n1.toNat), .int .i64 x3] (fun b => b ≠ w.heap.size) (fun _ => False) rfl rfl (k52_mkM _ _ _ (⟨2, rest.extract 0 n1.toNat, x3⟩ : S52)) (fun _ hk => hk.elim) (fun q hq => by have := (Array.getElem?_eq_some_iff.1 HC61.out).1; simp at hq; omega) (Kd.R_drew HO61.out) (below_drew HB61.out) HB61.out.size (by have := E3.out; omega) ?_
                      intro v7 w7 ho hb hg hat
                      have HO7 := Aside0.mk ho
                      have HB7 := Aside0.mk hb
                      have HC7 := Aside0.mk ((hg.block w.heap.size (by have := (Array.getElem?_eq_some_iff.1 HC61.out).1; simp; omega) (fun h => HO61.out.1 _ h.symm rfl)).trans HC61.out)
                      clear ho hb hg hat
                      refine hK.out _ _ ?_
                      clear hK K
                      refine norm_ (a' := ?_) ?_ ?_
                      rotate_left
                      · show Act.put _ (some 67) _ = _
                        simp only [Act.put, List.setIfInBounds_toArray, List.set_cons_zero, List.set_cons_succ, i64_w, i32_w]
                        rfl
                      refine pure_ (i := 10) (N := some 2) (v := ?_) (a' := ?_) #[true, true, true, true, true, true, true, true, true, true, true] rfl rfl (by kernel_rfl) (fun _ _ _ h => h) (Or.inl ⟨by rfl, ?_⟩) ?_ ?_
                      rotate_left
                      · intro w'
                        go_simp
                        with_reducible rfl
                      rotate_left
                      · simp only [Act.put, List.setIfInBounds_toArray, List.set_cons_zero, List.set_cons_succ, i64_w, i32_w]
                        rfl
                      refine done_ (by kernel_rfl) ?_
                      go_wp2
                      go_roundg k1
                      case measure => have := HK.out; omega
                      case rel => exact ⟨_, _, rfl, H, ⟨by have := HK.out; omega⟩, HO7, HC7, HB7⟩
                    · rw [if_neg d1] at A9
                      have d1b0 : decide (0 < n1) = false := decide_eq_false d1
                      clear d1
                      go_wp2_with fail
                      replace A9 := Option.bind_eq_some_iff.mp A9
                      obtain ⟨n2, B2, A9⟩ := A9
                      have B2 := Aside0.mk B2
                      rw [rounds_succ]
                      go_wp2_with fail
                      refine (tokens_sign.calls k1 rest n2 _ B2.out).mono ?_
                      rintro e w62 ⟨rfl, hd⟩
                      have hb := hd.below
                      have hk2 : w62.cell? ⟨w61.heap.size, 0, none⟩ = some (.int .u8 3) := (hb.cell (p := ⟨w61.heap.size, 0, none⟩) (by simp)).trans (blk_cell (heap_alloc_new _ _) 0)
                      have HO62 := Aside0.mk (Kd.R_below (Kd.R_alloc HO61.out _) hb)
                      have HB62 := Aside0.mk (below_step (below_alloc HB61.out _) hb)
                      have HC62 := Aside0.mk ((hb.block w.heap.size (by have := HB61.out.size; have := (Array.getElem?_eq_some_iff.1 HC61.out).1; simp; omega)).trans ((below_alloc (Below.refl _ _) _).block w.heap.size (Array.getElem?_eq_some_iff.1 HC61.out).1 |>.trans HC61.out))
                      clear HO61 HB61 HC61 hb B2
                      clear hd
                      by_cases d2 : n2 > 0
                      · rw [if_pos d2] at A9
                        have d2b0 : decide (0 < n2) = true := decide_eq_true d2
                        obtain ⟨rfl, rfl⟩ : 3 = q1 ∧ n2 = q2 := by simpa using A9
                        clear A9 hc0 hc1 hc2 hc3 hc4 hc5
                        rw [if_pos (by decide)] at H
                        by_cases e1 : 0 ≤ n2
                        rotate_left
                        · rw [if_neg e1] at H; exact absurd H (by simp)
                        rw [if_pos e1] at H
                        by_cases e2 : n2 ≤ (rest.size : Int)
                        rotate_left
                        · rw [if_neg e2] at H; exact absurd H (by simp)
                        rw [if_pos e2] at H
                        by_cases e3 : x2.length < 4398046511104
                        rotate_left
                        · rw [if_neg e3] at H; exact absurd H (by simp)
                        rw [if_pos e3] at H
                        have H := Aside0.mk H
                        have E3 := Aside0.mk e3
                        have e1b := eq_true e1
                        have e2b := eq_true e2
                        clear e1 e2 e3 d2
                        go_wp2_with fail
                        refine start_ (n := 11) (S := fun w' => w'.cell? ⟨w61.heap.size, 0, none⟩ = some (.int .u8 3)) (ds := [9]) #[false, false, false, false, false, false, false, false, false, false, false] (by kernel_rfl) rfl rfl (hk2) (fun hHeld => ?_)
                        refine pure_ (i := 0) (N := some 58) (v := ?_) (a' := ?_) #[true, false, false, false, false, false, false, false, false, false, false] rfl rfl (by kernel_rfl) (fun _ _ _ h => h) (Or.inl ⟨by rfl, ?_⟩) ?_ ?_
                        rotate_left
                        · intro w'
                          go_simp
                          with_reducible rfl
                        rotate_left
                        · simp only [Act.put, List.setIfInBounds_toArray, List.set_cons_zero, List.set_cons_succ, i64_w, i32_w]
                          rfl
                        refine pure_ (i := 1) (N := some 59) (v := ?_) (a' := ?_) #[true, true, false, false, false, false, false, false, false, false, false] rfl rfl (by kernel_rfl) (fun _ _ _ h => h) (Or.inl ⟨by rfl, ?_⟩) ?_ ?_
                        rotate_left
                        · intro w'
                          go_simp
                          with_reducible rfl
                        rotate_left
                        · simp only [Act.put, List.setIfInBounds_toArray, List.set_cons_zero, List.set_cons_succ, i64_w, i32_w]
                          rfl
                        refine pure_ (i := 3) (N := some 61) (v := ?_) (a' := ?_) #[true, true, false, true, false, false, false, false, false, false, false] rfl rfl (by kernel_rfl) (fun _ _ _ h => h) (Or.inl ⟨by rfl, ?_⟩) ?_ ?_
                        rotate_left
                        · intro w'
                          go_simp
                          with_reducible rfl
                        rotate_left
                        · simp only [Act.put, List.setIfInBounds_toArray, List.set_cons_zero, List.set_cons_succ, i64_w, i32_w]
                          rfl
                        refine pure_ (i := 4) (N := some 62) (v := ?_) (a' := ?_) #[true, true, false, true, true, false, false, false, false, false, false] rfl rfl (by kernel_rfl) (fun _ _ _ h => h) (Or.inl ⟨by rfl, ?_⟩) ?_ ?_
                        rotate_left
                        · intro w'
                          go_simp
                          with_reducible rfl
                        rotate_left
                        · simp only [Act.put, List.setIfInBounds_toArray, List.set_cons_zero, List.set_cons_succ, i64_w, i32_w]
                          rfl
                        refine pure_ (i := 5) (N := some 63) (v := ?_) (a' := ?_) #[true, true, false, true, true, true, false, false, false, false, false] rfl rfl (by kernel_rfl) (fun _ _ _ h => h) (Or.inl ⟨by rfl, ?_⟩) ?_ ?_
                        rotate_left
                        · intro w'
                          go_simp
                          with_reducible rfl
                        rotate_left
                        · simp only [Act.put, List.setIfInBounds_toArray, List.set_cons_zero, List.set_cons_succ, i64_w, i32_w]
                          rfl
                        refine pure_ (i := 6) (N := some 64) (v := ?_) (a' := ?_) #[true, true, false, true, true, true, true, false, false, false, false] rfl rfl (by kernel_rfl) (fun _ _ _ h => h) (Or.inl ⟨by rfl, ?_⟩) ?_ ?_
                        rotate_left
                        · intro w'
                          go_simp
                          with_reducible rfl
                        rotate_left
                        · simp only [Act.put, List.setIfInBounds_toArray, List.set_cons_zero, List.set_cons_succ, i64_w, i32_w]
                          rfl
                        refine take_ (i := 2) (N := some 60) (v := ?_) (a' := ?_) #[true, true, true, true, true, true, true, false, false, false, false] rfl rfl (by kernel_rfl) (fun _ _ _ h => h) (Or.inl ⟨by rfl, ?_⟩) hHeld ?_ ?_
                        rotate_left
                        · intro w' s0
                          go_simp
                          with_reducible rfl
                        rotate_left
                        · simp only [Act.put, List.setIfInBounds_toArray, List.set_cons_zero, List.set_cons_succ, i64_w, i32_w]
                          rfl
                        refine pure_ (i := 7) (N := some 65) (v := ?_) (a' := ?_) #[true, true, true, true, true, true, true, true, false, false, false] rfl rfl (by kernel_rfl) (fun _ _ _ h => h) (Or.inl ⟨by rfl, ?_⟩) ?_ ?_
                        rotate_left
                        · intro w'
                          go_simp
                          with_reducible rfl
                        rotate_left
                        · simp only [Act.put, List.setIfInBounds_toArray, List.set_cons_zero, List.set_cons_succ, i64_w, i32_w]
                          rfl
                        refine one_ (i := 8) (N := some 66) #[true, true, true, true, true, true, true, true, true, false, false] rfl rfl (by kernel_rfl) (by decide) (fun K hK => ?_)
                        refine value_ (w1 := ?_) (v := ?_) (by rfl) rfl ?_ ?_
                        rotate_left 2
                        · go_simp
                          constructor
                          · rfl
                          · rfl
                        refine hK.out _ _ ((pw_cell_below (below_alloc (below_drew (Below.refl _ _)) _) hk2)) (fun hHeld => ?_)
                        clear hK K
                        refine norm_ (a' := ?_) ?_ ?_
                        rotate_left
                        · show Act.put _ (some 66) _ = _
                          simp only [Act.put, List.setIfInBounds_toArray, List.set_cons_zero, List.set_cons_succ, i64_w, i32_w]
                          rfl
                        refine last_ (i := 9) (N := some 67) #[true, true, true, true, true, true, true, true, true, true, false] rfl rfl (by kernel_rfl) (by decide) (fun K hK => ?_)
                        refine Kd.R_append_step k52 (w0 := w) w.heap.size rfl (.tmp 58) (.tmp 66) 22 52 (.agg #[(.int .u8 0), (.string ⟨#[]⟩), (.int .i64 0)]) 32 rfl Tryz.underlying22 info52 rfl (by decide) (by omega) u2 x2 (⟨3, rest.extract 0 n2.toNat, x3⟩ : S52) [.int .u8 3, .string (rest.extract 0 n2.toNat), .int .i64 x3] (fun b => b ≠ w.heap.size) (fun _ => False) rfl rfl (k52_mkM _ _ _ (⟨3, rest.extract 0 n2.toNat, x3⟩ : S52)) (fun _ hk => hk.elim) (fun q hq => by have := (Array.getElem?_eq_some_iff.1 HC62.out).1; simp at hq; omega) (Kd.R_drew HO62.out) (below_drew HB62.out) HB62.out.size (by have := E3.out; omega) ?_
                        intro v7 w7 ho hb hg hat
                        have HO7 := Aside0.mk ho
                        have HB7 := Aside0.mk hb
                        have HC7 := Aside0.mk ((hg.block w.heap.size (by have := (Array.getElem?_eq_some_iff.1 HC62.out).1; simp; omega) (fun h => HO62.out.1 _ h.symm rfl)).trans HC62.out)
                        clear ho hb hg hat
                        refine hK.out _ _ ?_
                        clear hK K
                        refine norm_ (a' := ?_) ?_ ?_
                        rotate_left
                        · show Act.put _ (some 67) _ = _
                          simp only [Act.put, List.setIfInBounds_toArray, List.set_cons_zero, List.set_cons_succ, i64_w, i32_w]
                          rfl
                        refine pure_ (i := 10) (N := some 2) (v := ?_) (a' := ?_) #[true, true, true, true, true, true, true, true, true, true, true] rfl rfl (by kernel_rfl) (fun _ _ _ h => h) (Or.inl ⟨by rfl, ?_⟩) ?_ ?_
                        rotate_left
                        · intro w'
                          go_simp
                          with_reducible rfl
                        rotate_left
                        · simp only [Act.put, List.setIfInBounds_toArray, List.set_cons_zero, List.set_cons_succ, i64_w, i32_w]
                          rfl
                        refine done_ (by kernel_rfl) ?_
                        go_wp2
                        go_roundg k1
                        case measure => have := HK.out; omega
                        case rel => exact ⟨_, _, rfl, H, ⟨by have := HK.out; omega⟩, HO7, HC7, HB7⟩
                      · rw [if_neg d2] at A9
                        have d2b0 : decide (0 < n2) = false := decide_eq_false d2
                        clear d2
                        go_wp2_with fail
                        obtain ⟨rfl, rfl⟩ : 0 = q1 ∧ 0 = q2 := by simpa using A9
                        rw [if_neg (by decide)] at H
                        simp only [Option.some.injEq, Prod.mk.injEq] at H
                        obtain ⟨rfl, rfl, rfl⟩ := H
                        rw [rounds_succ]
                        go_wp2
                        try rw [Exit.noGoto_ret]
                        go_ret3
                        exact ⟨_, rfl, Kd.R_nil _ _ _ _ _, HB62.out⟩
              · rw [if_neg c7] at H
                exact absurd H (by simp)
          · rw [if_neg c4] at H
            exact absurd H (by simp)
        · rw [if_neg c3] at H
          have c3b0 : decide (x3 < (a0.size : Int)) = false := decide_eq_false c3
          clear c3
          simp only [Option.some.injEq, Prod.mk.injEq] at H
          obtain ⟨rfl, rfl, rfl⟩ := H
          go_wp2
          rw [Exit.noGoto_ret]
          go_ret3
          exact ⟨_, rfl, Kd.R_mono HO.out (fun _ _ => trivial), HB.out⟩

end Go.Proofs.YtgebfcdpbeaknaaGreatDoor.X
end

/-! #### X16 -/
section

namespace Go.Proofs.YtgebfcdpbeaknaaGreatDoor.X
open Go.RowKit Go.Proofs.YtgebfcdpbeaknaaGreatDoorW.PrintWords Go.Proofs.YtgebfcdpbeaknaaGreatDoorW.PrintLast Go.Proofs.YtgebfcdpbeaknaaGreatDoorW.PrintMore
attribute [local go_sem] max2_int min2_int max_two min_two max_three min_three max_four min_four   -- for this text's walks alone
set_option linter.unusedVariables false
set_option linter.unusedSimpArgs false

/-! ### assayerref06_letter: function 59 -/
def assayerref06_letter.f (a0 : Int) : Option (Bool) := if a0 ≥ 97 then (if a0 ≤ 122 then (some true) else (if a0 ≥ 65 then (some (decide (a0 ≤ 90))) else (some false))) else (if a0 ≥ 65 then (some (decide (a0 ≤ 90))) else (some false))
set_option maxHeartbeats 8000000 in
set_option maxRecDepth 100000 in
theorem assayerref06_letter.calls (a0 : Int) (r : Bool) (w : World) (h : assayerref06_letter.f a0 = some r) :
    Calls Tryz.prog 59 #[.int .u8 a0] w fun e w' => e = .returned (.bool r) ∧ Drawn0 w w' := by
  have H : (if a0 ≥ 97 then (if a0 ≤ 122 then (some true) else (if a0 ≥ 65 then (some (decide (a0 ≤ 90))) else (some false))) else (if a0 ≥ 65 then (some (decide (a0 ≤ 90))) else (some false))) = some r := h
  clear h
  by_cases c2 : a0 ≥ 97
  · rw [if_pos c2] at H
    have c2b0 : decide (97 ≤ a0) = true := decide_eq_true c2
    clear c2
    by_cases c3 : a0 ≤ 122
    · rw [if_pos c3] at H
      have c3b0 : decide (a0 ≤ 122) = true := decide_eq_true c3
      clear c3
      obtain rfl := Option.some.inj H
      go_enter Tryz.func59, Tryz.ntmps59
      go_wp2
      go_ret
      exact ⟨by first | rfl | (simp; done) | (simp [*]; done), by repeat (first | exact Drawn0.refl _ | apply Drawn0.step)⟩
    · rw [if_neg c3] at H
      have c3b0 : decide (a0 ≤ 122) = false := decide_eq_false c3
      clear c3
      by_cases c4 : a0 ≥ 65
      · rw [if_pos c4] at H
        have c4b0 : decide (65 ≤ a0) = true := decide_eq_true c4
        clear c4
        obtain rfl := Option.some.inj H
        go_enter Tryz.func59, Tryz.ntmps59
        go_wp2
        go_ret
        exact ⟨by first | rfl | (simp; done) | (simp [*]; done), by repeat (first | exact Drawn0.refl _ | apply Drawn0.step)⟩
      · rw [if_neg c4] at H
        have c4b0 : decide (65 ≤ a0) = false := decide_eq_false c4
        clear c4
        obtain rfl := Option.some.inj H
        go_enter Tryz.func59, Tryz.ntmps59
        go_wp2
        go_ret
        exact ⟨by first | rfl | (simp; done) | (simp [*]; done), by repeat (first | exact Drawn0.refl _ | apply Drawn0.step)⟩
  · rw [if_neg c2] at H
    have c2b0 : decide (97 ≤ a0) = false := decide_eq_false c2
    clear c2
    by_cases c5 : a0 ≥ 65
    · rw [if_pos c5] at H
      have c5b0 : decide (65 ≤ a0) = true := decide_eq_true c5
      clear c5
      obtain rfl := Option.some.inj H
      go_enter Tryz.func59, Tryz.ntmps59
      go_wp2
      go_ret
      exact ⟨by first | rfl | (simp; done) | (simp [*]; done), by repeat (first | exact Drawn0.refl _ | apply Drawn0.step)⟩
    · rw [if_neg c5] at H
      have c5b0 : decide (65 ≤ a0) = false := decide_eq_false c5
      clear c5
      obtain rfl := Option.some.inj H
      go_enter Tryz.func59, Tryz.ntmps59
      go_wp2
      go_ret
      exact ⟨by first | rfl | (simp; done) | (simp [*]; done), by repeat (first | exact Drawn0.refl _ | apply Drawn0.step)⟩

end Go.Proofs.YtgebfcdpbeaknaaGreatDoor.X
end

/-! #### X17 -/
section

namespace Go.Proofs.YtgebfcdpbeaknaaGreatDoor.X
open Go.RowKit Go.Proofs.YtgebfcdpbeaknaaGreatDoorW.PrintWords Go.Proofs.YtgebfcdpbeaknaaGreatDoorW.PrintLast Go.Proofs.YtgebfcdpbeaknaaGreatDoorW.PrintMore
attribute [local go_sem] max2_int min2_int max_two min_two max_three min_three max_four min_four   -- for this text's walks alone
set_option linter.unusedVariables false
set_option linter.unusedSimpArgs false

/-! ### assayerref06_digit: function 60 -/
def assayerref06_digit.f (a0 : Int) : Option (Bool) := if a0 ≥ 48 then (some (decide (a0 ≤ 57))) else (some false)
set_option maxHeartbeats 8000000 in
set_option maxRecDepth 100000 in
theorem assayerref06_digit.calls (a0 : Int) (r : Bool) (w : World) (h : assayerref06_digit.f a0 = some r) :
    Calls Tryz.prog 60 #[.int .u8 a0] w fun e w' => e = .returned (.bool r) ∧ Drawn0 w w' := by
  have H : (if a0 ≥ 48 then (some (decide (a0 ≤ 57))) else (some false)) = some r := h
  clear h
  by_cases c2 : a0 ≥ 48
  · rw [if_pos c2] at H
    have c2b0 : decide (48 ≤ a0) = true := decide_eq_true c2
    clear c2
    obtain rfl := Option.some.inj H
    go_enter Tryz.func60, Tryz.ntmps60
    go_wp2
    go_ret
    exact ⟨by first | rfl | (simp; done) | (simp [*]; done), by repeat (first | exact Drawn0.refl _ | apply Drawn0.step)⟩
  · rw [if_neg c2] at H
    have c2b0 : decide (48 ≤ a0) = false := decide_eq_false c2
    clear c2
    obtain rfl := Option.some.inj H
    go_enter Tryz.func60, Tryz.ntmps60
    go_wp2
    go_ret
    exact ⟨by first | rfl | (simp; done) | (simp [*]; done), by repeat (first | exact Drawn0.refl _ | apply Drawn0.step)⟩

end Go.Proofs.YtgebfcdpbeaknaaGreatDoor.X
end
