-- Laid by wip/gen.py (a program of this session) over the kit's print.py, with hand-proved contracts among its functions. Not trusted: Lean checks it.
import Derived.Test.YtogmmdnfaoaaoaaX0
import Derived.Test.YtogmmdnfaoaaoaaX3
import Derived.Test.YtogmmdnfaoaaoaaX4
namespace Go.Proofs.Ytogmmdnfaoaaoaa.X
open Go.RowKit Go.Proofs.YtogmmdnfaoaaoaaW.PrintWords Go.Proofs.YtogmmdnfaoaaoaaW.PrintLast Go.Proofs.YtogmmdnfaoaaoaaW.PrintMore
attribute [local go_sem] max2_int min2_int max_two min_two max_three min_three max_four min_four   -- for this text's walks alone
set_option linter.unusedVariables false
set_option linter.unusedSimpArgs false

/-! ### assayerlaw06_TokensPlaces: function 5 -/
mutual
def assayerlaw06_TokensPlaces.j0 : Nat → ByteArray → Bool → Option (Bool)
  | 0, _, _ => none
  | k + 1, x0, x17 => if x17 = true then ((assayerlaw06_alive.f k).bind fun t262 => (some t262)) else ((tokens_Read.f k x0).bind fun bt263 => (if bt263.2.2 = 0 then (assayerlaw06_TokensPlaces.l0 k x0 bt263.1 bt263.2.1 0 0) else (if bt263.2.2 = 4 then (if bt263.2.1 ≥ 0 then (if bt263.2.1 < (x0.size : Int) then (some ((bt263.1.length : Int) == 0)) else (some false)) else (some false)) else (some false))))
def assayerlaw06_TokensPlaces.l0 : Nat → ByteArray → List (S37) → Int → Int → Int → Option (Bool)
  | 0, _, _, _, _, _ => none
  | k + 1, x0, x3, x4, x6, x7 => if x7 ≤ (x3.length : Int) then (if x7 < (x3.length : Int) then (if 0 ≤ x7 then (if ((rd_T37 x3 x7).f2) < x6 then (some false) else (if ((rd_T37 x3 x7).f1).toList = ([] : List UInt8) then (some false) else (if (wrap64 ((x0.size : Int) - ((rd_T37 x3 x7).f2))) < (((rd_T37 x3 x7).f1).size : Int) then (some false) else (if 0 ≤ ((rd_T37 x3 x7).f2) then (if ((rd_T37 x3 x7).f2) ≤ (wrap64 (((rd_T37 x3 x7).f2) + (((rd_T37 x3 x7).f1).size : Int))) then (if (wrap64 (((rd_T37 x3 x7).f2) + (((rd_T37 x3 x7).f1).size : Int))) ≤ (x0.size : Int) then (if (x0.extract (((rd_T37 x3 x7).f2) : Int).toNat ((wrap64 (((rd_T37 x3 x7).f2) + (((rd_T37 x3 x7).f1).size : Int))) : Int).toNat).toList = ((rd_T37 x3 x7).f1).toList then (if ((rd_T37 x3 x7).f0) < 1 then (some false) else (if ((rd_T37 x3 x7).f0) > 3 then (some false) else (assayerlaw06_TokensPlaces.j2 k x0 x3 x4 x6 x7 ((rd_T37 x3 x7).f2)))) else (some false)) else (none)) else (none)) else (none))))) else (none)) else (assayerlaw06_TokensPlaces.j2 k x0 x3 x4 x6 x7 (x0.size : Int))) else (some (x4 == 0))
def assayerlaw06_TokensPlaces.j2 : Nat → ByteArray → List (S37) → Int → Int → Int → Int → Option (Bool)
  | 0, _, _, _, _, _, _ => none
  | k + 1, x0, x3, x4, x6, x7, x8 => assayerlaw06_TokensPlaces.l1 k x0 x3 x4 x6 x7 x8 false x6
def assayerlaw06_TokensPlaces.l1 : Nat → ByteArray → List (S37) → Int → Int → Int → Int → Bool → Int → Option (Bool)
  | 0, _, _, _, _, _, _, _, _ => none
  | k + 1, x0, x3, x4, x6, x7, x8, x9, x10 => if x10 < x8 then (if 0 ≤ x10 then (if x10 < (x0.size : Int) then (if (bt x0 x10) = 10 then (assayerlaw06_TokensPlaces.l1 k x0 x3 x4 x6 x7 x8 false (wrap64 (x10 + 1))) else (if x9 = true then (assayerlaw06_TokensPlaces.l1 k x0 x3 x4 x6 x7 x8 true (wrap64 (x10 + 1))) else (if ((bt x0 x10) = 35) then (assayerlaw06_TokensPlaces.l1 k x0 x3 x4 x6 x7 x8 ((bt x0 x10) == 35) (wrap64 (x10 + 1))) else (if (bt x0 x10) = 32 then (assayerlaw06_TokensPlaces.l1 k x0 x3 x4 x6 x7 x8 ((bt x0 x10) == 35) (wrap64 (x10 + 1))) else (if (bt x0 x10) = 9 then (assayerlaw06_TokensPlaces.l1 k x0 x3 x4 x6 x7 x8 ((bt x0 x10) == 35) (wrap64 (x10 + 1))) else (if (bt x0 x10) = 13 then (assayerlaw06_TokensPlaces.l1 k x0 x3 x4 x6 x7 x8 ((bt x0 x10) == 35) (wrap64 (x10 + 1))) else (some false))))))) else (none)) else (none)) else (if x7 < (x3.length : Int) then (if 0 ≤ x7 then (assayerlaw06_TokensPlaces.l0 k x0 x3 x4 (wrap64 (x8 + (((rd_T37 x3 x7).f1).size : Int))) (wrap64 (x7 + 1))) else (none)) else (assayerlaw06_TokensPlaces.l0 k x0 x3 x4 x6 (wrap64 (x7 + 1))))
end
def assayerlaw06_TokensPlaces.f (k : Nat) (a0 : ByteArray) : Option (Bool) := (assayerlaw06_alive.f k).bind fun t261 => (if t261 = true then (assayerlaw06_TokensPlaces.j0 k a0 (decide ((a0.size : Int) > 65536))) else (assayerlaw06_TokensPlaces.j0 k a0 true))
theorem assayerlaw06_TokensPlaces.mono_l : ∀ k, (∀ y0 y1, LeO (assayerlaw06_TokensPlaces.j0 k y0 y1) (assayerlaw06_TokensPlaces.j0 (k + 1) y0 y1)) ∧ (∀ y0 y1 y2 y3 y4, LeO (assayerlaw06_TokensPlaces.l0 k y0 y1 y2 y3 y4) (assayerlaw06_TokensPlaces.l0 (k + 1) y0 y1 y2 y3 y4)) ∧ (∀ y0 y1 y2 y3 y4 y5, LeO (assayerlaw06_TokensPlaces.j2 k y0 y1 y2 y3 y4 y5) (assayerlaw06_TokensPlaces.j2 (k + 1) y0 y1 y2 y3 y4 y5)) ∧ (∀ y0 y1 y2 y3 y4 y5 y6 y7, LeO (assayerlaw06_TokensPlaces.l1 k y0 y1 y2 y3 y4 y5 y6 y7) (assayerlaw06_TokensPlaces.l1 (k + 1) y0 y1 y2 y3 y4 y5 y6 y7))
  | 0 => ⟨fun _ _ r h => by simp [assayerlaw06_TokensPlaces.j0] at h, fun _ _ _ _ _ r h => by simp [assayerlaw06_TokensPlaces.l0] at h, fun _ _ _ _ _ _ r h => by simp [assayerlaw06_TokensPlaces.j2] at h, fun _ _ _ _ _ _ _ _ r h => by simp [assayerlaw06_TokensPlaces.l1] at h⟩
  | k + 1 => by
    obtain ⟨ih0, ih1, ih2, ih3⟩ := assayerlaw06_TokensPlaces.mono_l k
    refine ⟨?_, ?_, ?_, ?_⟩
    · intro y0 y1
      unfold assayerlaw06_TokensPlaces.j0
      repeat' first
      | (with_reducible exact ih0 _ _)
      | (with_reducible exact ih1 _ _ _ _ _)
      | (with_reducible exact ih2 _ _ _ _ _ _)
      | (with_reducible exact ih3 _ _ _ _ _ _ _ _)
      | (with_reducible exact assayerlaw06_alive.mono _)
      | (with_reducible exact tokens_Read.mono _ _)
      | (with_reducible exact LeO.refl _)
      | (with_reducible exact LeO.none _)
      | (with_reducible refine LeO.ite ?_ ?_)
      | (with_reducible refine LeO.bind ?_ (fun _ => ?_))
      | exact ih0 _ _
      | exact ih1 _ _ _ _ _
      | exact ih2 _ _ _ _ _ _
      | exact ih3 _ _ _ _ _ _ _ _
      | exact assayerlaw06_alive.mono _
      | exact tokens_Read.mono _ _
      | exact LeO.none _
      | refine LeO.ite ?_ ?_
      | refine LeO.bind ?_ (fun _ => ?_)
    · intro y0 y1 y2 y3 y4
      unfold assayerlaw06_TokensPlaces.l0
      repeat' first
      | (with_reducible exact ih0 _ _)
      | (with_reducible exact ih1 _ _ _ _ _)
      | (with_reducible exact ih2 _ _ _ _ _ _)
      | (with_reducible exact ih3 _ _ _ _ _ _ _ _)
      | (with_reducible exact assayerlaw06_alive.mono _)
      | (with_reducible exact tokens_Read.mono _ _)
      | (with_reducible exact LeO.refl _)
      | (with_reducible exact LeO.none _)
      | (with_reducible refine LeO.ite ?_ ?_)
      | (with_reducible refine LeO.bind ?_ (fun _ => ?_))
      | exact ih0 _ _
      | exact ih1 _ _ _ _ _
      | exact ih2 _ _ _ _ _ _
      | exact ih3 _ _ _ _ _ _ _ _
      | exact assayerlaw06_alive.mono _
      | exact tokens_Read.mono _ _
      | exact LeO.none _
      | refine LeO.ite ?_ ?_
      | refine LeO.bind ?_ (fun _ => ?_)
    · intro y0 y1 y2 y3 y4 y5
      unfold assayerlaw06_TokensPlaces.j2
      repeat' first
      | (with_reducible exact ih0 _ _)
      | (with_reducible exact ih1 _ _ _ _ _)
      | (with_reducible exact ih2 _ _ _ _ _ _)
      | (with_reducible exact ih3 _ _ _ _ _ _ _ _)
      | (with_reducible exact assayerlaw06_alive.mono _)
      | (with_reducible exact tokens_Read.mono _ _)
      | (with_reducible exact LeO.refl _)
      | (with_reducible exact LeO.none _)
      | (with_reducible refine LeO.ite ?_ ?_)
      | (with_reducible refine LeO.bind ?_ (fun _ => ?_))
      | exact ih0 _ _
      | exact ih1 _ _ _ _ _
      | exact ih2 _ _ _ _ _ _
      | exact ih3 _ _ _ _ _ _ _ _
      | exact assayerlaw06_alive.mono _
      | exact tokens_Read.mono _ _
      | exact LeO.none _
      | refine LeO.ite ?_ ?_
      | refine LeO.bind ?_ (fun _ => ?_)
    · intro y0 y1 y2 y3 y4 y5 y6 y7
      unfold assayerlaw06_TokensPlaces.l1
      repeat' first
      | (with_reducible exact ih0 _ _)
      | (with_reducible exact ih1 _ _ _ _ _)
      | (with_reducible exact ih2 _ _ _ _ _ _)
      | (with_reducible exact ih3 _ _ _ _ _ _ _ _)
      | (with_reducible exact assayerlaw06_alive.mono _)
      | (with_reducible exact tokens_Read.mono _ _)
      | (with_reducible exact LeO.refl _)
      | (with_reducible exact LeO.none _)
      | (with_reducible refine LeO.ite ?_ ?_)
      | (with_reducible refine LeO.bind ?_ (fun _ => ?_))
      | exact ih0 _ _
      | exact ih1 _ _ _ _ _
      | exact ih2 _ _ _ _ _ _
      | exact ih3 _ _ _ _ _ _ _ _
      | exact assayerlaw06_alive.mono _
      | exact tokens_Read.mono _ _
      | exact LeO.none _
      | refine LeO.ite ?_ ?_
      | refine LeO.bind ?_ (fun _ => ?_)
theorem assayerlaw06_TokensPlaces.mono : ∀ a0 k, LeO (assayerlaw06_TokensPlaces.f k a0) (assayerlaw06_TokensPlaces.f (k + 1) a0) := by
  intro a0 k
  obtain ⟨ih0, ih1, ih2, ih3⟩ := assayerlaw06_TokensPlaces.mono_l k
  unfold assayerlaw06_TokensPlaces.f
  repeat' first
      | (with_reducible exact ih0 _ _)
      | (with_reducible exact ih1 _ _ _ _ _)
      | (with_reducible exact ih2 _ _ _ _ _ _)
      | (with_reducible exact ih3 _ _ _ _ _ _ _ _)
      | (with_reducible exact assayerlaw06_alive.mono _)
      | (with_reducible exact tokens_Read.mono _ _)
      | (with_reducible exact LeO.refl _)
      | (with_reducible exact LeO.none _)
      | (with_reducible refine LeO.ite ?_ ?_)
      | (with_reducible refine LeO.bind ?_ (fun _ => ?_))
      | exact ih0 _ _
      | exact ih1 _ _ _ _ _
      | exact ih2 _ _ _ _ _ _
      | exact ih3 _ _ _ _ _ _ _ _
      | exact assayerlaw06_alive.mono _
      | exact tokens_Read.mono _ _
      | exact LeO.none _
      | refine LeO.ite ?_ ?_
      | refine LeO.bind ?_ (fun _ => ?_)
set_option maxHeartbeats 8000000 in
set_option maxRecDepth 100000 in
theorem assayerlaw06_TokensPlaces.calls (k : Nat) (a0 : ByteArray) (r : Bool) (w : World) (h : assayerlaw06_TokensPlaces.f k a0 = some r) :
    Calls Try.prog 5 #[.string a0] w fun e w' => e = .returned (.bool r) ∧ Below w.heap.size w w' := by
  have HB := Aside0.mk (Below.refl w.heap.size w)
  have H : ((assayerlaw06_alive.f k).bind fun t261 => (if t261 = true then (assayerlaw06_TokensPlaces.j0 k a0 (decide ((a0.size : Int) > 65536))) else (assayerlaw06_TokensPlaces.j0 k a0 true))) = some r := h
  clear h
  have HC2 := Aside0.mk H
  clear H
  go_enter Try.func5, Try.ntmps5
  go_upto_region 1 with (fail)
  repeat (go_quiet (fail); go_upto_region 1 with (fail))
  go_cut [17] (fun v17 wc => ∃ (kq : Nat) (x17_1 : Bool), v17 = .bool x17_1 ∧ Aside0 (assayerlaw06_TokensPlaces.j0 kq a0 x17_1 = some r) ∧ Aside0 (kq ≤ k) ∧ Aside0 (Below w.heap.size w wc))
  case first =>
    have H := HC2.out
    clear HC2
    replace H := Option.bind_eq_some_iff.mp H
    obtain ⟨t261, A30, H⟩ := H
    replace H : (if t261 = true then (assayerlaw06_TokensPlaces.j0 k a0 (decide ((a0.size : Int) > 65536))) else (assayerlaw06_TokensPlaces.j0 k a0 true)) = some r := H
    have A3 := Aside0.mk A30
    clear A30
    by_cases c4 : t261 = true
    · subst c4
      have H1 : (assayerlaw06_TokensPlaces.j0 k a0 (decide ((a0.size : Int) > 65536))) = some r := by rw [if_pos rfl] at H; exact H
      clear H
      have H := H1
      clear H1
      have H' := Aside0.mk H
      clear H
      go_wp2_with (first | (go_at_call 16; (with_reducible refine (assayerlaw06_alive.calls k  true _ A3.out).mono ?_); rintro e w5 ⟨rfl, hb⟩; have n0_ := Aside0.mk (below_step (by repeat (first | (with_reducible first | exact HB.out | apply below_alloc | apply pw_below_drewN | apply below_drew1) | exact HB.out)) hb); clear HB; have HB := n0_; clear n0_; (try clear hb); (try clear hb2); (try clear hk); (try clear hi)))
      repeat (go_quiet (first | (go_at_call 16; (with_reducible refine (assayerlaw06_alive.calls k  true _ A3.out).mono ?_); rintro e w5 ⟨rfl, hb⟩; have n0_ := Aside0.mk (below_step (by repeat (first | (with_reducible first | exact HB.out | apply below_alloc | apply pw_below_drewN | apply below_drew1) | exact HB.out)) hb); clear HB; have HB := n0_; clear n0_; (try clear hb); (try clear hb2); (try clear hk); (try clear hi))); try go_wp2_with (first | (go_at_call 16; (with_reducible refine (assayerlaw06_alive.calls k  true _ A3.out).mono ?_); rintro e w5 ⟨rfl, hb⟩; have n0_ := Aside0.mk (below_step (by repeat (first | (with_reducible first | exact HB.out | apply below_alloc | apply pw_below_drewN | apply below_drew1) | exact HB.out)) hb); clear HB; have HB := n0_; clear n0_; (try clear hb); (try clear hb2); (try clear hk); (try clear hi))))
      go_meet
      case rel => exact ⟨_, (decide ((a0.size : Int) > 65536)), (by first | rfl | (simp; done) | (simp [*]; done)), H', ⟨by first | omega | exact Nat.le_refl _⟩, ⟨by repeat (first | (with_reducible first | exact HB.out | apply below_alloc | apply pw_below_drewN | apply below_drew1) | exact HB.out)⟩⟩
    · replace c4 := Bool.eq_false_iff.mpr c4
      subst c4
      have H1 : (assayerlaw06_TokensPlaces.j0 k a0 true) = some r := by rw [if_neg (show ¬ (false = true) by decide)] at H; exact H
      clear H
      have H := H1
      clear H1
      have H' := Aside0.mk H
      clear H
      go_wp2_with (first | (go_at_call 16; (with_reducible refine (assayerlaw06_alive.calls k  false _ A3.out).mono ?_); rintro e w6 ⟨rfl, hb⟩; have n0_ := Aside0.mk (below_step (by repeat (first | (with_reducible first | exact HB.out | apply below_alloc | apply pw_below_drewN | apply below_drew1) | exact HB.out)) hb); clear HB; have HB := n0_; clear n0_; (try clear hb); (try clear hb2); (try clear hk); (try clear hi)))
      repeat (go_quiet (first | (go_at_call 16; (with_reducible refine (assayerlaw06_alive.calls k  false _ A3.out).mono ?_); rintro e w6 ⟨rfl, hb⟩; have n0_ := Aside0.mk (below_step (by repeat (first | (with_reducible first | exact HB.out | apply below_alloc | apply pw_below_drewN | apply below_drew1) | exact HB.out)) hb); clear HB; have HB := n0_; clear n0_; (try clear hb); (try clear hb2); (try clear hk); (try clear hi))); try go_wp2_with (first | (go_at_call 16; (with_reducible refine (assayerlaw06_alive.calls k  false _ A3.out).mono ?_); rintro e w6 ⟨rfl, hb⟩; have n0_ := Aside0.mk (below_step (by repeat (first | (with_reducible first | exact HB.out | apply below_alloc | apply pw_below_drewN | apply below_drew1) | exact HB.out)) hb); clear HB; have HB := n0_; clear n0_; (try clear hb); (try clear hb2); (try clear hk); (try clear hi))))
      go_meet
      case rel => exact ⟨_, (true), (by first | rfl | (simp; done) | (simp [*]; done)), H', ⟨by first | omega | exact Nat.le_refl _⟩, ⟨by repeat (first | (with_reducible first | exact HB.out | apply below_alloc | apply pw_below_drewN | apply below_drew1) | exact HB.out)⟩⟩
  case rest =>
    clear HC2
    try clear p2
    try clear c4
    try clear c5
    obtain ⟨kq, x17_1, rfl, HA, HJ1, HB⟩ := hcut
    cases kq with
    | zero => exact absurd HA.out (by simp [assayerlaw06_TokensPlaces.j0])
    | succ kj1 =>
      have H := HA.out
      clear HA
      simp only [assayerlaw06_TokensPlaces.j0] at H
      by_cases c7 : x17_1 = true
      · subst c7
        have H1 : ((assayerlaw06_alive.f kj1).bind fun t262 => (some t262)) = some r := by rw [if_pos rfl] at H; exact H
        clear H
        have H := H1
        clear H1
        replace H := Option.bind_eq_some_iff.mp H
        obtain ⟨t262, A80, H⟩ := H
        replace H : (some t262) = some r := H
        have A8 := Aside0.mk A80
        clear A80
        obtain rfl := Option.some.inj H
        go_wp2_with (first | (go_at_call 16; (with_reducible refine (assayerlaw06_alive.calls kj1  t262 _ A8.out).mono ?_); rintro e w9 ⟨rfl, hb⟩; have n0_ := Aside0.mk (below_step (by repeat (first | (with_reducible first | exact HB.out | apply below_alloc | apply pw_below_drewN | apply below_drew1) | exact HB.out)) hb); clear HB; have HB := n0_; clear n0_; (try clear hb); (try clear hb2); (try clear hk); (try clear hi)))
        repeat (go_quiet (first | (go_at_call 16; (with_reducible refine (assayerlaw06_alive.calls kj1  t262 _ A8.out).mono ?_); rintro e w9 ⟨rfl, hb⟩; have n0_ := Aside0.mk (below_step (by repeat (first | (with_reducible first | exact HB.out | apply below_alloc | apply pw_below_drewN | apply below_drew1) | exact HB.out)) hb); clear HB; have HB := n0_; clear n0_; (try clear hb); (try clear hb2); (try clear hk); (try clear hi))); try go_wp2_with (first | (go_at_call 16; (with_reducible refine (assayerlaw06_alive.calls kj1  t262 _ A8.out).mono ?_); rintro e w9 ⟨rfl, hb⟩; have n0_ := Aside0.mk (below_step (by repeat (first | (with_reducible first | exact HB.out | apply below_alloc | apply pw_below_drewN | apply below_drew1) | exact HB.out)) hb); clear HB; have HB := n0_; clear n0_; (try clear hb); (try clear hb2); (try clear hk); (try clear hi))))
        go_ret
        exact ⟨by first | rfl | (simp [errW_none, errW_some] <;> rfl) | (simp [*, errW_none, errW_some] <;> rfl), by repeat (first | (with_reducible first | exact HB.out | apply below_alloc | apply pw_below_drewN | apply below_drew1) | exact HB.out)⟩
      · replace c7 := Bool.eq_false_iff.mpr c7
        subst c7
        have H1 : ((tokens_Read.f kj1 a0).bind fun bt263 => (if bt263.2.2 = 0 then (assayerlaw06_TokensPlaces.l0 kj1 a0 bt263.1 bt263.2.1 0 0) else (if bt263.2.2 = 4 then (if bt263.2.1 ≥ 0 then (if bt263.2.1 < (a0.size : Int) then (some ((bt263.1.length : Int) == 0)) else (some false)) else (some false)) else (some false)))) = some r := by rw [if_neg (show ¬ (false = true) by decide)] at H; exact H
        clear H
        have H := H1
        clear H1
        replace H := Option.bind_eq_some_iff.mp H
        obtain ⟨⟨t263, t264, t265⟩, A100, H⟩ := H
        replace H : (if t265 = 0 then (assayerlaw06_TokensPlaces.l0 kj1 a0 t263 t264 0 0) else (if t265 = 4 then (if t264 ≥ 0 then (if t264 < (a0.size : Int) then (some ((t263.length : Int) == 0)) else (some false)) else (some false)) else (some false))) = some r := H
        have A10 := Aside0.mk A100
        clear A100
        by_cases c11 : t265 = 0
        · rw [if_pos c11] at H
          have c11b0 : (t265 == 0) = true := beq_iff_eq.mpr c11
          have c11b1 : (t265 != 0) = false := bne_eq_false_iff_eq.mpr c11
          clear c11
          have H' := Aside0.mk H
          clear H
          go_wp2_with (first | (go_at_call 17; (with_reducible refine (tokens_Read.calls kj1 a0 t263 t264 t265 _ A10.out).mono ?_); rintro e w12 ⟨v266, rfl, ho0, hb⟩; have n0_ := Aside0.mk (Kd.R_lower ho0 (below_size (by repeat (first | (with_reducible first | exact HB.out | apply below_alloc | apply pw_below_drewN | apply below_drew1) | exact HB.out)))); have n1_ := Aside0.mk (below_step (by repeat (first | (with_reducible first | exact HB.out | apply below_alloc | apply pw_below_drewN | apply below_drew1) | exact HB.out)) hb); clear HB; have HO267 := n0_; have HB := n1_; clear n0_ n1_; (try clear hb); (try clear hb2); (try clear hk); (try clear hi); (try clear ho0)))
          repeat (go_quiet (first | (go_at_call 17; (with_reducible refine (tokens_Read.calls kj1 a0 t263 t264 t265 _ A10.out).mono ?_); rintro e w12 ⟨v266, rfl, ho0, hb⟩; have n0_ := Aside0.mk (Kd.R_lower ho0 (below_size (by repeat (first | (with_reducible first | exact HB.out | apply below_alloc | apply pw_below_drewN | apply below_drew1) | exact HB.out)))); have n1_ := Aside0.mk (below_step (by repeat (first | (with_reducible first | exact HB.out | apply below_alloc | apply pw_below_drewN | apply below_drew1) | exact HB.out)) hb); clear HB; have HO267 := n0_; have HB := n1_; clear n0_ n1_; (try clear hb); (try clear hb2); (try clear hk); (try clear hi); (try clear ho0))); try go_wp2_with (first | (go_at_call 17; (with_reducible refine (tokens_Read.calls kj1 a0 t263 t264 t265 _ A10.out).mono ?_); rintro e w12 ⟨v266, rfl, ho0, hb⟩; have n0_ := Aside0.mk (Kd.R_lower ho0 (below_size (by repeat (first | (with_reducible first | exact HB.out | apply below_alloc | apply pw_below_drewN | apply below_drew1) | exact HB.out)))); have n1_ := Aside0.mk (below_step (by repeat (first | (with_reducible first | exact HB.out | apply below_alloc | apply pw_below_drewN | apply below_drew1) | exact HB.out)) hb); clear HB; have HO267 := n0_; have HB := n1_; clear n0_ n1_; (try clear hb); (try clear hb2); (try clear hk); (try clear hi); (try clear ho0))))
          go_loopg [6, 7] kj1 (fun kq v6 v7 w' => ∃ (x6_2 : Int) (x7_2 : Int), v6 = .int .i64 x6_2 ∧ v7 = .int .i64 x7_2 ∧ Aside0 (assayerlaw06_TokensPlaces.l0 kq a0 t263 t264 x6_2 x7_2 = some r) ∧ Aside0 (kq ≤ kj1) ∧ Aside0 (Kd.R k37 37 w' w.heap.size (fun _ => True) v266 t263) ∧ Aside0 (Below w.heap.size w w'))
          case atStart => exact ⟨(0), (0), (by first | rfl | (simp; done) | (simp [*]; done)), (by first | rfl | (simp; done) | (simp [*]; done)), H', ⟨Nat.le_refl _⟩, ⟨by (with_reducible repeat (first | apply Kd.R_alloc | apply Kd.R_drewN | apply Kd.R_drew)); exact HO267.out⟩, ⟨by repeat (first | (with_reducible first | exact HB.out | apply below_alloc | apply pw_below_drewN | apply below_drew1) | exact HB.out)⟩⟩
          case round =>
            clear H'
            try clear c1
            try clear p2
            try clear c4
            try clear c5
            try clear c7
            try clear c11
            try clear c11b0
            try clear c11b1
            try clear p2
            obtain ⟨x6_2, x7_2, rfl, rfl, HA, HK2, HO_3, HB⟩ := hrel
            cases gk with
            | zero => exact absurd HA.out (by simp [assayerlaw06_TokensPlaces.l0])
            | succ k2 =>
              have H := HA.out
              clear HA
              simp only [assayerlaw06_TokensPlaces.l0] at H
              by_cases c13 : x7_2 ≤ (t263.length : Int)
              · rw [if_pos c13] at H
                have c13b0 : decide (x7_2 ≤ (t263.length : Int)) = true := decide_eq_true c13
                clear c13
                have HC14 := Aside0.mk H
                clear H
                obtain ⟨Ao15, co15, eo15⟩ := Kd.R_slice HO_3.out
                subst eo15
                go_upto_if 55 with (fail)
                repeat (go_quiet (fail); go_upto_if 55 with (fail))
                go_cut [8] (fun v8 wc => ∃ (kq : Nat) (x8_13 : Int), v8 = .int .i64 x8_13 ∧ Aside0 (assayerlaw06_TokensPlaces.j2 kq a0 t263 t264 x6_2 x7_2 x8_13 = some r) ∧ Aside0 (kq ≤ k2) ∧ Aside0 (Kd.R k37 37 wc w.heap.size (fun _ => True) (.slice Ao15 t263.length co15) t263) ∧ Aside0 (Below w.heap.size w wc))
                case first =>
                  have H := HC14.out
                  clear HC14
                  by_cases c16 : x7_2 < (t263.length : Int)
                  · rw [if_pos c16] at H
                    have c16b0 : decide (x7_2 < (t263.length : Int)) = true := decide_eq_true c16
                    clear c16
                    (first | rw [c16b0] | (simp only [i64_w, i32_w]; rw [c16b0]) | skip)
                    by_cases c17 : 0 ≤ x7_2
                    · rw [if_pos c17] at H
                      have c17b0 : decide (0 ≤ x7_2) = true := decide_eq_true c17
                      clear c17
                      by_cases c18 : ((rd_T37 t263 x7_2).f2) < x6_2
                      · rw [if_pos c18] at H
                        have c18b0 : decide (((rd_T37 t263 x7_2).f2) < x6_2) = true := decide_eq_true c18
                        clear c18
                        obtain rfl := Option.some.inj H
                        have p268 : 0 ≤ (x7_2 : Int) := of_decide_eq_true (by first | (with_reducible assumption) | assumption)
                        have q268 : x7_2 < (t263.length : Int) := of_decide_eq_true (by first | (with_reducible assumption) | assumption)
                        obtain ⟨ad268, e268, hx268_0, hx268_1, hx268_2⟩ := at_T37 (Kd.R_reads' HO_3.out).2.2 x7_2 p268 q268
                        cases e268
                        replace p268 := eq_true p268
                        replace q268 := eq_true q268
                        go_wp2
                        repeat (go_quiet (fail); try go_wp2)
                        go_ret
                        exact ⟨by first | rfl | (simp [errW_none, errW_some] <;> rfl) | (simp [*, errW_none, errW_some] <;> rfl), by repeat (first | (with_reducible first | exact HB.out | apply below_alloc | apply pw_below_drewN | apply below_drew1) | exact HB.out)⟩
                      · rw [if_neg c18] at H
                        have c18b0 : decide (((rd_T37 t263 x7_2).f2) < x6_2) = false := decide_eq_false c18
                        clear c18
                        by_cases c19 : ((rd_T37 t263 x7_2).f1).toList = ([] : List UInt8)
                        · rw [if_pos c19] at H
                          have c19b0 : (((rd_T37 t263 x7_2).f1).toList == ([] : List UInt8)) = true := beq_iff_eq.mpr c19
                          have c19b1 : (((rd_T37 t263 x7_2).f1).toList != ([] : List UInt8)) = false := bne_eq_false_iff_eq.mpr c19
                          clear c19
                          obtain rfl := Option.some.inj H
                          have p268 : 0 ≤ (x7_2 : Int) := of_decide_eq_true (by first | (with_reducible assumption) | assumption)
                          have q268 : x7_2 < (t263.length : Int) := of_decide_eq_true (by first | (with_reducible assumption) | assumption)
                          obtain ⟨ad268, e268, hx268_0, hx268_1, hx268_2⟩ := at_T37 (Kd.R_reads' HO_3.out).2.2 x7_2 p268 q268
                          cases e268
                          replace p268 := eq_true p268
                          replace q268 := eq_true q268
                          have p269 : 0 ≤ (x7_2 : Int) := of_decide_eq_true (by first | (with_reducible assumption) | assumption)
                          have q269 : x7_2 < (t263.length : Int) := of_decide_eq_true (by first | (with_reducible assumption) | assumption)
                          obtain ⟨ad269, e269, hx269_0, hx269_1, hx269_2⟩ := at_T37 (Kd.R_reads' HO_3.out).2.2 x7_2 p269 q269
                          obtain rfl : ad268 = ad269 := (by injection e269)
                          replace p269 := eq_true p269
                          replace q269 := eq_true q269
                          go_wp2
                          repeat (go_quiet (fail); try go_wp2)
                          go_ret
                          exact ⟨by first | rfl | (simp [errW_none, errW_some] <;> rfl) | (simp [*, errW_none, errW_some] <;> rfl), by repeat (first | (with_reducible first | exact HB.out | apply below_alloc | apply pw_below_drewN | apply below_drew1) | exact HB.out)⟩
                        · rw [if_neg c19] at H
                          have c19b0 : (((rd_T37 t263 x7_2).f1).toList == ([] : List UInt8)) = false := beq_eq_false_iff_ne.mpr c19
                          have c19b1 : (((rd_T37 t263 x7_2).f1).toList != ([] : List UInt8)) = true := bne_iff_ne.mpr c19
                          by_cases c20 : (wrap64 ((a0.size : Int) - ((rd_T37 t263 x7_2).f2))) < (((rd_T37 t263 x7_2).f1).size : Int)
                          · rw [if_pos c20] at H
                            have c20b0 : decide ((wrap64 ((a0.size : Int) - ((rd_T37 t263 x7_2).f2))) < (((rd_T37 t263 x7_2).f1).size : Int)) = true := decide_eq_true c20
                            clear c20
                            obtain rfl := Option.some.inj H
                            have p268 : 0 ≤ (x7_2 : Int) := of_decide_eq_true (by first | (with_reducible assumption) | assumption)
                            have q268 : x7_2 < (t263.length : Int) := of_decide_eq_true (by first | (with_reducible assumption) | assumption)
                            obtain ⟨ad268, e268, hx268_0, hx268_1, hx268_2⟩ := at_T37 (Kd.R_reads' HO_3.out).2.2 x7_2 p268 q268
                            cases e268
                            replace p268 := eq_true p268
                            replace q268 := eq_true q268
                            have p269 : 0 ≤ (x7_2 : Int) := of_decide_eq_true (by first | (with_reducible assumption) | assumption)
                            have q269 : x7_2 < (t263.length : Int) := of_decide_eq_true (by first | (with_reducible assumption) | assumption)
                            obtain ⟨ad269, e269, hx269_0, hx269_1, hx269_2⟩ := at_T37 (Kd.R_reads' HO_3.out).2.2 x7_2 p269 q269
                            obtain rfl : ad268 = ad269 := (by injection e269)
                            replace p269 := eq_true p269
                            replace q269 := eq_true q269
                            have p270 : 0 ≤ (x7_2 : Int) := of_decide_eq_true (by first | (with_reducible assumption) | assumption)
                            have q270 : x7_2 < (t263.length : Int) := of_decide_eq_true (by first | (with_reducible assumption) | assumption)
                            obtain ⟨ad270, e270, hx270_0, hx270_1, hx270_2⟩ := at_T37 (Kd.R_reads' HO_3.out).2.2 x7_2 p270 q270
                            obtain rfl : ad268 = ad270 := (by injection e270)
                            replace p270 := eq_true p270
                            replace q270 := eq_true q270
                            go_wp2
                            repeat (go_quiet (fail); try go_wp2)
                            go_ret
                            exact ⟨by first | rfl | (simp [errW_none, errW_some] <;> rfl) | (simp [*, errW_none, errW_some] <;> rfl), by repeat (first | (with_reducible first | exact HB.out | apply below_alloc | apply pw_below_drewN | apply below_drew1) | exact HB.out)⟩
                          · rw [if_neg c20] at H
                            have c20b0 : decide ((wrap64 ((a0.size : Int) - ((rd_T37 t263 x7_2).f2))) < (((rd_T37 t263 x7_2).f1).size : Int)) = false := decide_eq_false c20
                            clear c20
                            by_cases c21 : 0 ≤ ((rd_T37 t263 x7_2).f2)
                            · rw [if_pos c21] at H
                              have c21b0 := eq_true c21
                              have c21b1 : decide (0 ≤ ((rd_T37 t263 x7_2).f2)) = true := decide_eq_true c21
                              clear c21
                              by_cases c22 : ((rd_T37 t263 x7_2).f2) ≤ (wrap64 (((rd_T37 t263 x7_2).f2) + (((rd_T37 t263 x7_2).f1).size : Int)))
                              · rw [if_pos c22] at H
                                have c22b0 := eq_true c22
                                have c22b1 : decide (((rd_T37 t263 x7_2).f2) ≤ (wrap64 (((rd_T37 t263 x7_2).f2) + (((rd_T37 t263 x7_2).f1).size : Int)))) = true := decide_eq_true c22
                                by_cases c23 : (wrap64 (((rd_T37 t263 x7_2).f2) + (((rd_T37 t263 x7_2).f1).size : Int))) ≤ (a0.size : Int)
                                · rw [if_pos c23] at H
                                  have c23b0 := eq_true c23
                                  have c23b1 : decide ((wrap64 (((rd_T37 t263 x7_2).f2) + (((rd_T37 t263 x7_2).f1).size : Int))) ≤ (a0.size : Int)) = true := decide_eq_true c23
                                  by_cases c24 : (a0.extract (((rd_T37 t263 x7_2).f2) : Int).toNat ((wrap64 (((rd_T37 t263 x7_2).f2) + (((rd_T37 t263 x7_2).f1).size : Int))) : Int).toNat).toList = ((rd_T37 t263 x7_2).f1).toList
                                  · rw [if_pos c24] at H
                                    have c24b0 : ((a0.extract (((rd_T37 t263 x7_2).f2) : Int).toNat ((wrap64 (((rd_T37 t263 x7_2).f2) + (((rd_T37 t263 x7_2).f1).size : Int))) : Int).toNat).toList == ((rd_T37 t263 x7_2).f1).toList) = true := beq_iff_eq.mpr c24
                                    have c24b1 : ((a0.extract (((rd_T37 t263 x7_2).f2) : Int).toNat ((wrap64 (((rd_T37 t263 x7_2).f2) + (((rd_T37 t263 x7_2).f1).size : Int))) : Int).toNat).toList != ((rd_T37 t263 x7_2).f1).toList) = false := bne_eq_false_iff_eq.mpr c24
                                    clear c24
                                    by_cases c25 : ((rd_T37 t263 x7_2).f0) < 1
                                    · rw [if_pos c25] at H
                                      have c25b0 : decide (((rd_T37 t263 x7_2).f0) < 1) = true := decide_eq_true c25
                                      clear c25
                                      obtain rfl := Option.some.inj H
                                      have p268 : 0 ≤ (x7_2 : Int) := of_decide_eq_true (by first | (with_reducible assumption) | assumption)
                                      have q268 : x7_2 < (t263.length : Int) := of_decide_eq_true (by first | (with_reducible assumption) | assumption)
                                      obtain ⟨ad268, e268, hx268_0, hx268_1, hx268_2⟩ := at_T37 (Kd.R_reads' HO_3.out).2.2 x7_2 p268 q268
                                      cases e268
                                      replace p268 := eq_true p268
                                      replace q268 := eq_true q268
                                      have p269 : 0 ≤ (x7_2 : Int) := of_decide_eq_true (by first | (with_reducible assumption) | assumption)
                                      have q269 : x7_2 < (t263.length : Int) := of_decide_eq_true (by first | (with_reducible assumption) | assumption)
                                      obtain ⟨ad269, e269, hx269_0, hx269_1, hx269_2⟩ := at_T37 (Kd.R_reads' HO_3.out).2.2 x7_2 p269 q269
                                      obtain rfl : ad268 = ad269 := (by injection e269)
                                      replace p269 := eq_true p269
                                      replace q269 := eq_true q269
                                      have p270 : 0 ≤ (x7_2 : Int) := of_decide_eq_true (by first | (with_reducible assumption) | assumption)
                                      have q270 : x7_2 < (t263.length : Int) := of_decide_eq_true (by first | (with_reducible assumption) | assumption)
                                      obtain ⟨ad270, e270, hx270_0, hx270_1, hx270_2⟩ := at_T37 (Kd.R_reads' HO_3.out).2.2 x7_2 p270 q270
                                      obtain rfl : ad268 = ad270 := (by injection e270)
                                      replace p270 := eq_true p270
                                      replace q270 := eq_true q270
                                      have p271 : 0 ≤ (x7_2 : Int) := of_decide_eq_true (by first | (with_reducible assumption) | assumption)
                                      have q271 : x7_2 < (t263.length : Int) := of_decide_eq_true (by first | (with_reducible assumption) | assumption)
                                      obtain ⟨ad271, e271, hx271_0, hx271_1, hx271_2⟩ := at_T37 (Kd.R_reads' HO_3.out).2.2 x7_2 p271 q271
                                      obtain rfl : ad268 = ad271 := (by injection e271)
                                      replace p271 := eq_true p271
                                      replace q271 := eq_true q271
                                      have p272 : 0 ≤ (x7_2 : Int) := of_decide_eq_true (by first | (with_reducible assumption) | assumption)
                                      have q272 : x7_2 < (t263.length : Int) := of_decide_eq_true (by first | (with_reducible assumption) | assumption)
                                      obtain ⟨ad272, e272, hx272_0, hx272_1, hx272_2⟩ := at_T37 (Kd.R_reads' HO_3.out).2.2 x7_2 p272 q272
                                      obtain rfl : ad268 = ad272 := (by injection e272)
                                      replace p272 := eq_true p272
                                      replace q272 := eq_true q272
                                      have p273 : 0 ≤ (x7_2 : Int) := of_decide_eq_true (by first | (with_reducible assumption) | assumption)
                                      have q273 : x7_2 < (t263.length : Int) := of_decide_eq_true (by first | (with_reducible assumption) | assumption)
                                      obtain ⟨ad273, e273, hx273_0, hx273_1, hx273_2⟩ := at_T37 (Kd.R_reads' HO_3.out).2.2 x7_2 p273 q273
                                      obtain rfl : ad268 = ad273 := (by injection e273)
                                      replace p273 := eq_true p273
                                      replace q273 := eq_true q273
                                      go_wp2
                                      repeat (go_quiet (fail); try go_wp2)
                                      go_ret
                                      exact ⟨by first | rfl | (simp [errW_none, errW_some] <;> rfl) | (simp [*, errW_none, errW_some] <;> rfl), by repeat (first | (with_reducible first | exact HB.out | apply below_alloc | apply pw_below_drewN | apply below_drew1) | exact HB.out)⟩
                                    · rw [if_neg c25] at H
                                      have c25b0 : decide (((rd_T37 t263 x7_2).f0) < 1) = false := decide_eq_false c25
                                      clear c25
                                      by_cases c26 : ((rd_T37 t263 x7_2).f0) > 3
                                      · rw [if_pos c26] at H
                                        have c26b0 : decide (3 < ((rd_T37 t263 x7_2).f0)) = true := decide_eq_true c26
                                        clear c26
                                        obtain rfl := Option.some.inj H
                                        have p268 : 0 ≤ (x7_2 : Int) := of_decide_eq_true (by first | (with_reducible assumption) | assumption)
                                        have q268 : x7_2 < (t263.length : Int) := of_decide_eq_true (by first | (with_reducible assumption) | assumption)
                                        obtain ⟨ad268, e268, hx268_0, hx268_1, hx268_2⟩ := at_T37 (Kd.R_reads' HO_3.out).2.2 x7_2 p268 q268
                                        cases e268
                                        replace p268 := eq_true p268
                                        replace q268 := eq_true q268
                                        have p269 : 0 ≤ (x7_2 : Int) := of_decide_eq_true (by first | (with_reducible assumption) | assumption)
                                        have q269 : x7_2 < (t263.length : Int) := of_decide_eq_true (by first | (with_reducible assumption) | assumption)
                                        obtain ⟨ad269, e269, hx269_0, hx269_1, hx269_2⟩ := at_T37 (Kd.R_reads' HO_3.out).2.2 x7_2 p269 q269
                                        obtain rfl : ad268 = ad269 := (by injection e269)
                                        replace p269 := eq_true p269
                                        replace q269 := eq_true q269
                                        have p270 : 0 ≤ (x7_2 : Int) := of_decide_eq_true (by first | (with_reducible assumption) | assumption)
                                        have q270 : x7_2 < (t263.length : Int) := of_decide_eq_true (by first | (with_reducible assumption) | assumption)
                                        obtain ⟨ad270, e270, hx270_0, hx270_1, hx270_2⟩ := at_T37 (Kd.R_reads' HO_3.out).2.2 x7_2 p270 q270
                                        obtain rfl : ad268 = ad270 := (by injection e270)
                                        replace p270 := eq_true p270
                                        replace q270 := eq_true q270
                                        have p271 : 0 ≤ (x7_2 : Int) := of_decide_eq_true (by first | (with_reducible assumption) | assumption)
                                        have q271 : x7_2 < (t263.length : Int) := of_decide_eq_true (by first | (with_reducible assumption) | assumption)
                                        obtain ⟨ad271, e271, hx271_0, hx271_1, hx271_2⟩ := at_T37 (Kd.R_reads' HO_3.out).2.2 x7_2 p271 q271
                                        obtain rfl : ad268 = ad271 := (by injection e271)
                                        replace p271 := eq_true p271
                                        replace q271 := eq_true q271
                                        have p272 : 0 ≤ (x7_2 : Int) := of_decide_eq_true (by first | (with_reducible assumption) | assumption)
                                        have q272 : x7_2 < (t263.length : Int) := of_decide_eq_true (by first | (with_reducible assumption) | assumption)
                                        obtain ⟨ad272, e272, hx272_0, hx272_1, hx272_2⟩ := at_T37 (Kd.R_reads' HO_3.out).2.2 x7_2 p272 q272
                                        obtain rfl : ad268 = ad272 := (by injection e272)
                                        replace p272 := eq_true p272
                                        replace q272 := eq_true q272
                                        have p273 : 0 ≤ (x7_2 : Int) := of_decide_eq_true (by first | (with_reducible assumption) | assumption)
                                        have q273 : x7_2 < (t263.length : Int) := of_decide_eq_true (by first | (with_reducible assumption) | assumption)
                                        obtain ⟨ad273, e273, hx273_0, hx273_1, hx273_2⟩ := at_T37 (Kd.R_reads' HO_3.out).2.2 x7_2 p273 q273
                                        obtain rfl : ad268 = ad273 := (by injection e273)
                                        replace p273 := eq_true p273
                                        replace q273 := eq_true q273
                                        have p274 : 0 ≤ (x7_2 : Int) := of_decide_eq_true (by first | (with_reducible assumption) | assumption)
                                        have q274 : x7_2 < (t263.length : Int) := of_decide_eq_true (by first | (with_reducible assumption) | assumption)
                                        obtain ⟨ad274, e274, hx274_0, hx274_1, hx274_2⟩ := at_T37 (Kd.R_reads' HO_3.out).2.2 x7_2 p274 q274
                                        obtain rfl : ad268 = ad274 := (by injection e274)
                                        replace p274 := eq_true p274
                                        replace q274 := eq_true q274
                                        go_wp2
                                        repeat (go_quiet (fail); try go_wp2)
                                        go_ret
                                        exact ⟨by first | rfl | (simp [errW_none, errW_some] <;> rfl) | (simp [*, errW_none, errW_some] <;> rfl), by repeat (first | (with_reducible first | exact HB.out | apply below_alloc | apply pw_below_drewN | apply below_drew1) | exact HB.out)⟩
                                      · rw [if_neg c26] at H
                                        have c26b0 : decide (3 < ((rd_T37 t263 x7_2).f0)) = false := decide_eq_false c26
                                        clear c26
                                        have H' := Aside0.mk H
                                        clear H
                                        have p268 : 0 ≤ (x7_2 : Int) := of_decide_eq_true (by first | (with_reducible assumption) | assumption)
                                        have q268 : x7_2 < (t263.length : Int) := of_decide_eq_true (by first | (with_reducible assumption) | assumption)
                                        obtain ⟨ad268, e268, hx268_0, hx268_1, hx268_2⟩ := at_T37 (Kd.R_reads' HO_3.out).2.2 x7_2 p268 q268
                                        cases e268
                                        replace p268 := eq_true p268
                                        replace q268 := eq_true q268
                                        have p269 : 0 ≤ (x7_2 : Int) := of_decide_eq_true (by first | (with_reducible assumption) | assumption)
                                        have q269 : x7_2 < (t263.length : Int) := of_decide_eq_true (by first | (with_reducible assumption) | assumption)
                                        obtain ⟨ad269, e269, hx269_0, hx269_1, hx269_2⟩ := at_T37 (Kd.R_reads' HO_3.out).2.2 x7_2 p269 q269
                                        obtain rfl : ad268 = ad269 := (by injection e269)
                                        replace p269 := eq_true p269
                                        replace q269 := eq_true q269
                                        have p270 : 0 ≤ (x7_2 : Int) := of_decide_eq_true (by first | (with_reducible assumption) | assumption)
                                        have q270 : x7_2 < (t263.length : Int) := of_decide_eq_true (by first | (with_reducible assumption) | assumption)
                                        obtain ⟨ad270, e270, hx270_0, hx270_1, hx270_2⟩ := at_T37 (Kd.R_reads' HO_3.out).2.2 x7_2 p270 q270
                                        obtain rfl : ad268 = ad270 := (by injection e270)
                                        replace p270 := eq_true p270
                                        replace q270 := eq_true q270
                                        have p271 : 0 ≤ (x7_2 : Int) := of_decide_eq_true (by first | (with_reducible assumption) | assumption)
                                        have q271 : x7_2 < (t263.length : Int) := of_decide_eq_true (by first | (with_reducible assumption) | assumption)
                                        obtain ⟨ad271, e271, hx271_0, hx271_1, hx271_2⟩ := at_T37 (Kd.R_reads' HO_3.out).2.2 x7_2 p271 q271
                                        obtain rfl : ad268 = ad271 := (by injection e271)
                                        replace p271 := eq_true p271
                                        replace q271 := eq_true q271
                                        have p272 : 0 ≤ (x7_2 : Int) := of_decide_eq_true (by first | (with_reducible assumption) | assumption)
                                        have q272 : x7_2 < (t263.length : Int) := of_decide_eq_true (by first | (with_reducible assumption) | assumption)
                                        obtain ⟨ad272, e272, hx272_0, hx272_1, hx272_2⟩ := at_T37 (Kd.R_reads' HO_3.out).2.2 x7_2 p272 q272
                                        obtain rfl : ad268 = ad272 := (by injection e272)
                                        replace p272 := eq_true p272
                                        replace q272 := eq_true q272
                                        have p273 : 0 ≤ (x7_2 : Int) := of_decide_eq_true (by first | (with_reducible assumption) | assumption)
                                        have q273 : x7_2 < (t263.length : Int) := of_decide_eq_true (by first | (with_reducible assumption) | assumption)
                                        obtain ⟨ad273, e273, hx273_0, hx273_1, hx273_2⟩ := at_T37 (Kd.R_reads' HO_3.out).2.2 x7_2 p273 q273
                                        obtain rfl : ad268 = ad273 := (by injection e273)
                                        replace p273 := eq_true p273
                                        replace q273 := eq_true q273
                                        have p274 : 0 ≤ (x7_2 : Int) := of_decide_eq_true (by first | (with_reducible assumption) | assumption)
                                        have q274 : x7_2 < (t263.length : Int) := of_decide_eq_true (by first | (with_reducible assumption) | assumption)
                                        obtain ⟨ad274, e274, hx274_0, hx274_1, hx274_2⟩ := at_T37 (Kd.R_reads' HO_3.out).2.2 x7_2 p274 q274
                                        obtain rfl : ad268 = ad274 := (by injection e274)
                                        replace p274 := eq_true p274
                                        replace q274 := eq_true q274
                                        go_wp2
                                        repeat (go_quiet (fail); try go_wp2)
                                        go_meet
                                        case rel => exact ⟨_, ((rd_T37 t263 x7_2).f2), (by first | rfl | (simp; done) | (simp [*]; done)), H', ⟨by have := HJ1.out; have := HK2.out; first | omega | exact Nat.le_refl _⟩, ⟨by (with_reducible repeat (first | apply Kd.R_alloc | apply Kd.R_drewN | apply Kd.R_drew)); exact HO_3.out⟩, ⟨by repeat (first | (with_reducible first | exact HB.out | apply below_alloc | apply pw_below_drewN | apply below_drew1) | exact HB.out)⟩⟩
                                  · rw [if_neg c24] at H
                                    have c24b0 : ((a0.extract (((rd_T37 t263 x7_2).f2) : Int).toNat ((wrap64 (((rd_T37 t263 x7_2).f2) + (((rd_T37 t263 x7_2).f1).size : Int))) : Int).toNat).toList == ((rd_T37 t263 x7_2).f1).toList) = false := beq_eq_false_iff_ne.mpr c24
                                    have c24b1 : ((a0.extract (((rd_T37 t263 x7_2).f2) : Int).toNat ((wrap64 (((rd_T37 t263 x7_2).f2) + (((rd_T37 t263 x7_2).f1).size : Int))) : Int).toNat).toList != ((rd_T37 t263 x7_2).f1).toList) = true := bne_iff_ne.mpr c24
                                    obtain rfl := Option.some.inj H
                                    have p268 : 0 ≤ (x7_2 : Int) := of_decide_eq_true (by first | (with_reducible assumption) | assumption)
                                    have q268 : x7_2 < (t263.length : Int) := of_decide_eq_true (by first | (with_reducible assumption) | assumption)
                                    obtain ⟨ad268, e268, hx268_0, hx268_1, hx268_2⟩ := at_T37 (Kd.R_reads' HO_3.out).2.2 x7_2 p268 q268
                                    cases e268
                                    replace p268 := eq_true p268
                                    replace q268 := eq_true q268
                                    have p269 : 0 ≤ (x7_2 : Int) := of_decide_eq_true (by first | (with_reducible assumption) | assumption)
                                    have q269 : x7_2 < (t263.length : Int) := of_decide_eq_true (by first | (with_reducible assumption) | assumption)
                                    obtain ⟨ad269, e269, hx269_0, hx269_1, hx269_2⟩ := at_T37 (Kd.R_reads' HO_3.out).2.2 x7_2 p269 q269
                                    obtain rfl : ad268 = ad269 := (by injection e269)
                                    replace p269 := eq_true p269
                                    replace q269 := eq_true q269
                                    have p270 : 0 ≤ (x7_2 : Int) := of_decide_eq_true (by first | (with_reducible assumption) | assumption)
                                    have q270 : x7_2 < (t263.length : Int) := of_decide_eq_true (by first | (with_reducible assumption) | assumption)
                                    obtain ⟨ad270, e270, hx270_0, hx270_1, hx270_2⟩ := at_T37 (Kd.R_reads' HO_3.out).2.2 x7_2 p270 q270
                                    obtain rfl : ad268 = ad270 := (by injection e270)
                                    replace p270 := eq_true p270
                                    replace q270 := eq_true q270
                                    have p271 : 0 ≤ (x7_2 : Int) := of_decide_eq_true (by first | (with_reducible assumption) | assumption)
                                    have q271 : x7_2 < (t263.length : Int) := of_decide_eq_true (by first | (with_reducible assumption) | assumption)
                                    obtain ⟨ad271, e271, hx271_0, hx271_1, hx271_2⟩ := at_T37 (Kd.R_reads' HO_3.out).2.2 x7_2 p271 q271
                                    obtain rfl : ad268 = ad271 := (by injection e271)
                                    replace p271 := eq_true p271
                                    replace q271 := eq_true q271
                                    have p272 : 0 ≤ (x7_2 : Int) := of_decide_eq_true (by first | (with_reducible assumption) | assumption)
                                    have q272 : x7_2 < (t263.length : Int) := of_decide_eq_true (by first | (with_reducible assumption) | assumption)
                                    obtain ⟨ad272, e272, hx272_0, hx272_1, hx272_2⟩ := at_T37 (Kd.R_reads' HO_3.out).2.2 x7_2 p272 q272
                                    obtain rfl : ad268 = ad272 := (by injection e272)
                                    replace p272 := eq_true p272
                                    replace q272 := eq_true q272
                                    go_wp2
                                    repeat (go_quiet (fail); try go_wp2)
                                    go_ret
                                    exact ⟨by first | rfl | (simp [errW_none, errW_some] <;> rfl) | (simp [*, errW_none, errW_some] <;> rfl), by repeat (first | (with_reducible first | exact HB.out | apply below_alloc | apply pw_below_drewN | apply below_drew1) | exact HB.out)⟩
                                · rw [if_neg c23] at H
                                  exact absurd H (by simp)
                              · rw [if_neg c22] at H
                                exact absurd H (by simp)
                            · rw [if_neg c21] at H
                              exact absurd H (by simp)
                    · rw [if_neg c17] at H
                      exact absurd H (by simp)
                  · rw [if_neg c16] at H
                    have c16b0 : decide (x7_2 < (t263.length : Int)) = false := decide_eq_false c16
                    clear c16
                    (first | rw [c16b0] | (simp only [i64_w, i32_w]; rw [c16b0]) | skip)
                    have H' := Aside0.mk H
                    clear H
                    go_wp2
                    repeat (go_quiet (fail); try go_wp2)
                    go_meet
                    case rel => exact ⟨_, ((a0.size : Int)), (by first | rfl | (simp; done) | (simp [*]; done)), H', ⟨by have := HJ1.out; have := HK2.out; first | omega | exact Nat.le_refl _⟩, ⟨by (with_reducible repeat (first | apply Kd.R_alloc | apply Kd.R_drewN | apply Kd.R_drew)); exact HO_3.out⟩, ⟨by repeat (first | (with_reducible first | exact HB.out | apply below_alloc | apply pw_below_drewN | apply below_drew1) | exact HB.out)⟩⟩
                case rest =>
                  clear HC14
                  try clear c1
                  try clear c2
                  try clear p2
                  try clear q2
                  try clear hx2
                  try clear c4
                  try clear c5
                  try clear p6
                  try clear c7
                  try clear c11
                  try clear c11b0
                  try clear c11b1
                  try clear c13
                  try clear c13b0
                  try clear c16
                  try clear c16b0
                  try clear c17
                  try clear c17b0
                  try clear c18
                  try clear c18b0
                  try clear c19
                  try clear c19b0
                  try clear c19b1
                  try clear c20
                  try clear c20b0
                  try clear c21
                  try clear c21b0
                  try clear c21b1
                  try clear c22
                  try clear c22b0
                  try clear c22b1
                  try clear c23
                  try clear c23b0
                  try clear c23b1
                  try clear c24
                  try clear c24b0
                  try clear c24b1
                  try clear c25
                  try clear c25b0
                  try clear c26
                  try clear c26b0
                  try clear p26
                  try clear q26
                  try clear hx26
                  try clear hx268_0
                  try clear hx268_1
                  try clear hx268_2
                  try clear hx269_0
                  try clear hx269_1
                  try clear hx269_2
                  try clear hx270_0
                  try clear hx270_1
                  try clear hx270_2
                  try clear hx271_0
                  try clear hx271_1
                  try clear hx271_2
                  try clear hx272_0
                  try clear hx272_1
                  try clear hx272_2
                  try clear hx273_0
                  try clear hx273_1
                  try clear hx273_2
                  try clear hx274_0
                  try clear hx274_1
                  try clear hx274_2
                  try clear p2
                  try clear p268
                  try clear p269
                  try clear p270
                  try clear p271
                  try clear p272
                  try clear p273
                  try clear p274
                  try clear q268
                  try clear q269
                  try clear q270
                  try clear q271
                  try clear q272
                  try clear q273
                  try clear q274
                  obtain ⟨kq, x8_13, rfl, HA, HJ13, HO_3, HB⟩ := hcut
                  cases kq with
                  | zero => exact absurd HA.out (by simp [assayerlaw06_TokensPlaces.j2])
                  | succ kj13 =>
                    have H := HA.out
                    clear HA
                    simp only [assayerlaw06_TokensPlaces.j2] at H
                    have H' := Aside0.mk H
                    clear H
                    go_wp2
                    repeat (go_quiet (fail); try go_wp2)
                    go_loopg [9, 10] kj13 (fun kq v9 v10 w' => ∃ (x9_4 : Bool) (x10_4 : Int), v9 = .bool x9_4 ∧ v10 = .int .i64 x10_4 ∧ Aside0 (assayerlaw06_TokensPlaces.l1 kq a0 t263 t264 x6_2 x7_2 x8_13 x9_4 x10_4 = some r) ∧ Aside0 (kq ≤ kj13) ∧ Aside0 (Kd.R k37 37 w' w.heap.size (fun _ => True) (.slice Ao15 t263.length co15) t263) ∧ Aside0 (Below w.heap.size w w'))
                    case atStart => exact ⟨(false), (x6_2), (by first | rfl | (simp; done) | (simp [*]; done)), (by first | rfl | (simp; done) | (simp [*]; done)), H', ⟨Nat.le_refl _⟩, ⟨by (with_reducible repeat (first | apply Kd.R_alloc | apply Kd.R_drewN | apply Kd.R_drew)); exact HO_3.out⟩, ⟨by repeat (first | (with_reducible first | exact HB.out | apply below_alloc | apply pw_below_drewN | apply below_drew1) | exact HB.out)⟩⟩
                    case round =>
                      clear H'
                      try clear c1
                      try clear c2
                      try clear p2
                      try clear q2
                      try clear hx2
                      try clear c4
                      try clear c5
                      try clear p6
                      try clear c7
                      try clear c11
                      try clear c11b0
                      try clear c11b1
                      try clear c13
                      try clear c13b0
                      try clear c16
                      try clear c16b0
                      try clear c17
                      try clear c17b0
                      try clear c18
                      try clear c18b0
                      try clear c19
                      try clear c19b0
                      try clear c19b1
                      try clear c20
                      try clear c20b0
                      try clear c21
                      try clear c21b0
                      try clear c21b1
                      try clear c22
                      try clear c22b0
                      try clear c22b1
                      try clear c23
                      try clear c23b0
                      try clear c23b1
                      try clear c24
                      try clear c24b0
                      try clear c24b1
                      try clear c25
                      try clear c25b0
                      try clear c26
                      try clear c26b0
                      try clear p26
                      try clear q26
                      try clear hx26
                      try clear hx268_0
                      try clear hx268_1
                      try clear hx268_2
                      try clear hx269_0
                      try clear hx269_1
                      try clear hx269_2
                      try clear hx270_0
                      try clear hx270_1
                      try clear hx270_2
                      try clear hx271_0
                      try clear hx271_1
                      try clear hx271_2
                      try clear hx272_0
                      try clear hx272_1
                      try clear hx272_2
                      try clear hx273_0
                      try clear hx273_1
                      try clear hx273_2
                      try clear hx274_0
                      try clear hx274_1
                      try clear hx274_2
                      try clear p2
                      try clear p26
                      try clear p268
                      try clear p269
                      try clear p270
                      try clear p271
                      try clear p272
                      try clear p273
                      try clear p274
                      try clear p6
                      try clear q2
                      try clear q26
                      try clear q268
                      try clear q269
                      try clear q270
                      try clear q271
                      try clear q272
                      try clear q273
                      try clear q274
                      obtain ⟨x9_4, x10_4, rfl, rfl, HA, HK4, HO_3, HB⟩ := hrel
                      cases gk with
                      | zero => exact absurd HA.out (by simp [assayerlaw06_TokensPlaces.l1])
                      | succ k4 =>
                        have H := HA.out
                        clear HA
                        simp only [assayerlaw06_TokensPlaces.l1] at H
                        by_cases c27 : x10_4 < x8_13
                        · rw [if_pos c27] at H
                          have c27b0 : decide (x10_4 < x8_13) = true := decide_eq_true c27
                          clear c27
                          by_cases c28 : 0 ≤ x10_4
                          · rw [if_pos c28] at H
                            have c28b0 : decide (0 ≤ x10_4) = true := decide_eq_true c28
                            clear c28
                            by_cases c29 : x10_4 < (a0.size : Int)
                            · rw [if_pos c29] at H
                              have c29b0 : decide (x10_4 < (a0.size : Int)) = true := decide_eq_true c29
                              clear c29
                              by_cases c31 : (bt a0 x10_4) = 10
                              · rw [if_pos c31] at H
                                have c31b0 : ((bt a0 x10_4) == 10) = true := beq_iff_eq.mpr c31
                                have c31b1 : ((bt a0 x10_4) != 10) = false := bne_eq_false_iff_eq.mpr c31
                                clear c31
                                have H' := Aside0.mk H
                                clear H
                                have p30 : 0 ≤ (x10_4 : Int) := of_decide_eq_true (by first | (with_reducible assumption) | assumption)
                                have q30 : x10_4 < (a0.size : Int) := of_decide_eq_true (by first | (with_reducible assumption) | assumption)
                                have hx30 := bt_at a0 x10_4
                                replace p30 := eq_true p30
                                replace q30 := eq_true q30
                                go_wp2
                                repeat (go_quiet (fail); try go_wp2)
                                go_roundg k4
                                case measure => have := HJ1.out; have := HK2.out; have := HJ13.out; have := HK4.out; omega
                                case rel => exact ⟨(false), (wrap64 (x10_4 + 1)), (by first | rfl | (simp; done) | (simp [*]; done)), (by first | rfl | (simp; done) | (simp [*]; done)), H', ⟨by have := HJ1.out; have := HK2.out; have := HJ13.out; have := HK4.out; omega⟩, ⟨by (with_reducible repeat (first | apply Kd.R_alloc | apply Kd.R_drewN | apply Kd.R_drew)); exact HO_3.out⟩, ⟨by repeat (first | (with_reducible first | exact HB.out | apply below_alloc | apply pw_below_drewN | apply below_drew1) | exact HB.out)⟩⟩
                              · rw [if_neg c31] at H
                                have c31b0 : ((bt a0 x10_4) == 10) = false := beq_eq_false_iff_ne.mpr c31
                                have c31b1 : ((bt a0 x10_4) != 10) = true := bne_iff_ne.mpr c31
                                by_cases c32 : x9_4 = true
                                · subst c32
                                  have H1 : (assayerlaw06_TokensPlaces.l1 k4 a0 t263 t264 x6_2 x7_2 x8_13 true (wrap64 (x10_4 + 1))) = some r := by rw [if_pos rfl] at H; exact H
                                  clear H
                                  have H := H1
                                  clear H1
                                  have H' := Aside0.mk H
                                  clear H
                                  have p30 : 0 ≤ (x10_4 : Int) := of_decide_eq_true (by first | (with_reducible assumption) | assumption)
                                  have q30 : x10_4 < (a0.size : Int) := of_decide_eq_true (by first | (with_reducible assumption) | assumption)
                                  have hx30 := bt_at a0 x10_4
                                  replace p30 := eq_true p30
                                  replace q30 := eq_true q30
                                  go_wp2
                                  repeat (go_quiet (fail); try go_wp2)
                                  go_roundg k4
                                  case measure => have := HJ1.out; have := HK2.out; have := HJ13.out; have := HK4.out; omega
                                  case rel => exact ⟨(true), (wrap64 (x10_4 + 1)), (by first | rfl | (simp; done) | (simp [*]; done)), (by first | rfl | (simp; done) | (simp [*]; done)), H', ⟨by have := HJ1.out; have := HK2.out; have := HJ13.out; have := HK4.out; omega⟩, ⟨by (with_reducible repeat (first | apply Kd.R_alloc | apply Kd.R_drewN | apply Kd.R_drew)); exact HO_3.out⟩, ⟨by repeat (first | (with_reducible first | exact HB.out | apply below_alloc | apply pw_below_drewN | apply below_drew1) | exact HB.out)⟩⟩
                                · replace c32 := Bool.eq_false_iff.mpr c32
                                  subst c32
                                  have H1 : (if ((bt a0 x10_4) = 35) then (assayerlaw06_TokensPlaces.l1 k4 a0 t263 t264 x6_2 x7_2 x8_13 ((bt a0 x10_4) == 35) (wrap64 (x10_4 + 1))) else (if (bt a0 x10_4) = 32 then (assayerlaw06_TokensPlaces.l1 k4 a0 t263 t264 x6_2 x7_2 x8_13 ((bt a0 x10_4) == 35) (wrap64 (x10_4 + 1))) else (if (bt a0 x10_4) = 9 then (assayerlaw06_TokensPlaces.l1 k4 a0 t263 t264 x6_2 x7_2 x8_13 ((bt a0 x10_4) == 35) (wrap64 (x10_4 + 1))) else (if (bt a0 x10_4) = 13 then (assayerlaw06_TokensPlaces.l1 k4 a0 t263 t264 x6_2 x7_2 x8_13 ((bt a0 x10_4) == 35) (wrap64 (x10_4 + 1))) else (some false))))) = some r := by rw [if_neg (show ¬ (false = true) by decide)] at H; exact H
                                  clear H
                                  have H := H1
                                  clear H1
                                  by_cases c34 : ((bt a0 x10_4) = 35)
                                  · rw [if_pos c34] at H
                                    have c34b0 : ((bt a0 x10_4) == 35) = true := beq_iff_eq.mpr c34
                                    have c34b1 : ((bt a0 x10_4) != 35) = false := bne_eq_false_iff_eq.mpr c34
                                    clear c34
                                    have H' := Aside0.mk H
                                    clear H
                                    have p30 : 0 ≤ (x10_4 : Int) := of_decide_eq_true (by first | (with_reducible assumption) | assumption)
                                    have q30 : x10_4 < (a0.size : Int) := of_decide_eq_true (by first | (with_reducible assumption) | assumption)
                                    have hx30 := bt_at a0 x10_4
                                    replace p30 := eq_true p30
                                    replace q30 := eq_true q30
                                    have p33 : 0 ≤ (x10_4 : Int) := of_decide_eq_true (by first | (with_reducible assumption) | assumption)
                                    have q33 : x10_4 < (a0.size : Int) := of_decide_eq_true (by first | (with_reducible assumption) | assumption)
                                    have hx33 := bt_at a0 x10_4
                                    replace p33 := eq_true p33
                                    replace q33 := eq_true q33
                                    go_wp2
                                    repeat (go_quiet (fail); try go_wp2)
                                    go_roundg k4
                                    case measure => have := HJ1.out; have := HK2.out; have := HJ13.out; have := HK4.out; omega
                                    case rel => exact ⟨(((bt a0 x10_4) == 35)), (wrap64 (x10_4 + 1)), (by first | rfl | (simp; done) | (simp [*]; done)), (by first | rfl | (simp; done) | (simp [*]; done)), H', ⟨by have := HJ1.out; have := HK2.out; have := HJ13.out; have := HK4.out; omega⟩, ⟨by (with_reducible repeat (first | apply Kd.R_alloc | apply Kd.R_drewN | apply Kd.R_drew)); exact HO_3.out⟩, ⟨by repeat (first | (with_reducible first | exact HB.out | apply below_alloc | apply pw_below_drewN | apply below_drew1) | exact HB.out)⟩⟩
                                  · rw [if_neg c34] at H
                                    have c34b0 : ((bt a0 x10_4) == 35) = false := beq_eq_false_iff_ne.mpr c34
                                    have c34b1 : ((bt a0 x10_4) != 35) = true := bne_iff_ne.mpr c34
                                    by_cases c36 : (bt a0 x10_4) = 32
                                    · rw [if_pos c36] at H
                                      have c36b0 : ((bt a0 x10_4) == 32) = true := beq_iff_eq.mpr c36
                                      have c36b1 : ((bt a0 x10_4) != 32) = false := bne_eq_false_iff_eq.mpr c36
                                      clear c36
                                      have H' := Aside0.mk H
                                      clear H
                                      have p30 : 0 ≤ (x10_4 : Int) := of_decide_eq_true (by first | (with_reducible assumption) | assumption)
                                      have q30 : x10_4 < (a0.size : Int) := of_decide_eq_true (by first | (with_reducible assumption) | assumption)
                                      have hx30 := bt_at a0 x10_4
                                      replace p30 := eq_true p30
                                      replace q30 := eq_true q30
                                      have p33 : 0 ≤ (x10_4 : Int) := of_decide_eq_true (by first | (with_reducible assumption) | assumption)
                                      have q33 : x10_4 < (a0.size : Int) := of_decide_eq_true (by first | (with_reducible assumption) | assumption)
                                      have hx33 := bt_at a0 x10_4
                                      replace p33 := eq_true p33
                                      replace q33 := eq_true q33
                                      have p35 : 0 ≤ (x10_4 : Int) := of_decide_eq_true (by first | (with_reducible assumption) | assumption)
                                      have q35 : x10_4 < (a0.size : Int) := of_decide_eq_true (by first | (with_reducible assumption) | assumption)
                                      have hx35 := bt_at a0 x10_4
                                      replace p35 := eq_true p35
                                      replace q35 := eq_true q35
                                      go_wp2
                                      repeat (go_quiet (fail); try go_wp2)
                                      go_roundg k4
                                      case measure => have := HJ1.out; have := HK2.out; have := HJ13.out; have := HK4.out; omega
                                      case rel => exact ⟨(((bt a0 x10_4) == 35)), (wrap64 (x10_4 + 1)), (by first | rfl | (simp; done) | (simp [*]; done)), (by first | rfl | (simp; done) | (simp [*]; done)), H', ⟨by have := HJ1.out; have := HK2.out; have := HJ13.out; have := HK4.out; omega⟩, ⟨by (with_reducible repeat (first | apply Kd.R_alloc | apply Kd.R_drewN | apply Kd.R_drew)); exact HO_3.out⟩, ⟨by repeat (first | (with_reducible first | exact HB.out | apply below_alloc | apply pw_below_drewN | apply below_drew1) | exact HB.out)⟩⟩
                                    · rw [if_neg c36] at H
                                      have c36b0 : ((bt a0 x10_4) == 32) = false := beq_eq_false_iff_ne.mpr c36
                                      have c36b1 : ((bt a0 x10_4) != 32) = true := bne_iff_ne.mpr c36
                                      by_cases c38 : (bt a0 x10_4) = 9
                                      · rw [if_pos c38] at H
                                        have c38b0 : ((bt a0 x10_4) == 9) = true := beq_iff_eq.mpr c38
                                        have c38b1 : ((bt a0 x10_4) != 9) = false := bne_eq_false_iff_eq.mpr c38
                                        clear c38
                                        have H' := Aside0.mk H
                                        clear H
                                        have p30 : 0 ≤ (x10_4 : Int) := of_decide_eq_true (by first | (with_reducible assumption) | assumption)
                                        have q30 : x10_4 < (a0.size : Int) := of_decide_eq_true (by first | (with_reducible assumption) | assumption)
                                        have hx30 := bt_at a0 x10_4
                                        replace p30 := eq_true p30
                                        replace q30 := eq_true q30
                                        have p33 : 0 ≤ (x10_4 : Int) := of_decide_eq_true (by first | (with_reducible assumption) | assumption)
                                        have q33 : x10_4 < (a0.size : Int) := of_decide_eq_true (by first | (with_reducible assumption) | assumption)
                                        have hx33 := bt_at a0 x10_4
                                        replace p33 := eq_true p33
                                        replace q33 := eq_true q33
                                        have p35 : 0 ≤ (x10_4 : Int) := of_decide_eq_true (by first | (with_reducible assumption) | assumption)
                                        have q35 : x10_4 < (a0.size : Int) := of_decide_eq_true (by first | (with_reducible assumption) | assumption)
                                        have hx35 := bt_at a0 x10_4
                                        replace p35 := eq_true p35
                                        replace q35 := eq_true q35
                                        have p37 : 0 ≤ (x10_4 : Int) := of_decide_eq_true (by first | (with_reducible assumption) | assumption)
                                        have q37 : x10_4 < (a0.size : Int) := of_decide_eq_true (by first | (with_reducible assumption) | assumption)
                                        have hx37 := bt_at a0 x10_4
                                        replace p37 := eq_true p37
                                        replace q37 := eq_true q37
                                        go_wp2
                                        repeat (go_quiet (fail); try go_wp2)
                                        go_roundg k4
                                        case measure => have := HJ1.out; have := HK2.out; have := HJ13.out; have := HK4.out; omega
                                        case rel => exact ⟨(((bt a0 x10_4) == 35)), (wrap64 (x10_4 + 1)), (by first | rfl | (simp; done) | (simp [*]; done)), (by first | rfl | (simp; done) | (simp [*]; done)), H', ⟨by have := HJ1.out; have := HK2.out; have := HJ13.out; have := HK4.out; omega⟩, ⟨by (with_reducible repeat (first | apply Kd.R_alloc | apply Kd.R_drewN | apply Kd.R_drew)); exact HO_3.out⟩, ⟨by repeat (first | (with_reducible first | exact HB.out | apply below_alloc | apply pw_below_drewN | apply below_drew1) | exact HB.out)⟩⟩
                                      · rw [if_neg c38] at H
                                        have c38b0 : ((bt a0 x10_4) == 9) = false := beq_eq_false_iff_ne.mpr c38
                                        have c38b1 : ((bt a0 x10_4) != 9) = true := bne_iff_ne.mpr c38
                                        by_cases c40 : (bt a0 x10_4) = 13
                                        · rw [if_pos c40] at H
                                          have c40b0 : ((bt a0 x10_4) == 13) = true := beq_iff_eq.mpr c40
                                          have c40b1 : ((bt a0 x10_4) != 13) = false := bne_eq_false_iff_eq.mpr c40
                                          clear c40
                                          have H' := Aside0.mk H
                                          clear H
                                          have p30 : 0 ≤ (x10_4 : Int) := of_decide_eq_true (by first | (with_reducible assumption) | assumption)
                                          have q30 : x10_4 < (a0.size : Int) := of_decide_eq_true (by first | (with_reducible assumption) | assumption)
                                          have hx30 := bt_at a0 x10_4
                                          replace p30 := eq_true p30
                                          replace q30 := eq_true q30
                                          have p33 : 0 ≤ (x10_4 : Int) := of_decide_eq_true (by first | (with_reducible assumption) | assumption)
                                          have q33 : x10_4 < (a0.size : Int) := of_decide_eq_true (by first | (with_reducible assumption) | assumption)
                                          have hx33 := bt_at a0 x10_4
                                          replace p33 := eq_true p33
                                          replace q33 := eq_true q33
                                          have p35 : 0 ≤ (x10_4 : Int) := of_decide_eq_true (by first | (with_reducible assumption) | assumption)
                                          have q35 : x10_4 < (a0.size : Int) := of_decide_eq_true (by first | (with_reducible assumption) | assumption)
                                          have hx35 := bt_at a0 x10_4
                                          replace p35 := eq_true p35
                                          replace q35 := eq_true q35
                                          have p37 : 0 ≤ (x10_4 : Int) := of_decide_eq_true (by first | (with_reducible assumption) | assumption)
                                          have q37 : x10_4 < (a0.size : Int) := of_decide_eq_true (by first | (with_reducible assumption) | assumption)
                                          have hx37 := bt_at a0 x10_4
                                          replace p37 := eq_true p37
                                          replace q37 := eq_true q37
                                          have p39 : 0 ≤ (x10_4 : Int) := of_decide_eq_true (by first | (with_reducible assumption) | assumption)
                                          have q39 : x10_4 < (a0.size : Int) := of_decide_eq_true (by first | (with_reducible assumption) | assumption)
                                          have hx39 := bt_at a0 x10_4
                                          replace p39 := eq_true p39
                                          replace q39 := eq_true q39
                                          go_wp2
                                          repeat (go_quiet (fail); try go_wp2)
                                          go_roundg k4
                                          case measure => have := HJ1.out; have := HK2.out; have := HJ13.out; have := HK4.out; omega
                                          case rel => exact ⟨(((bt a0 x10_4) == 35)), (wrap64 (x10_4 + 1)), (by first | rfl | (simp; done) | (simp [*]; done)), (by first | rfl | (simp; done) | (simp [*]; done)), H', ⟨by have := HJ1.out; have := HK2.out; have := HJ13.out; have := HK4.out; omega⟩, ⟨by (with_reducible repeat (first | apply Kd.R_alloc | apply Kd.R_drewN | apply Kd.R_drew)); exact HO_3.out⟩, ⟨by repeat (first | (with_reducible first | exact HB.out | apply below_alloc | apply pw_below_drewN | apply below_drew1) | exact HB.out)⟩⟩
                                        · rw [if_neg c40] at H
                                          have c40b0 : ((bt a0 x10_4) == 13) = false := beq_eq_false_iff_ne.mpr c40
                                          have c40b1 : ((bt a0 x10_4) != 13) = true := bne_iff_ne.mpr c40
                                          obtain rfl := Option.some.inj H
                                          have p30 : 0 ≤ (x10_4 : Int) := of_decide_eq_true (by first | (with_reducible assumption) | assumption)
                                          have q30 : x10_4 < (a0.size : Int) := of_decide_eq_true (by first | (with_reducible assumption) | assumption)
                                          have hx30 := bt_at a0 x10_4
                                          replace p30 := eq_true p30
                                          replace q30 := eq_true q30
                                          have p33 : 0 ≤ (x10_4 : Int) := of_decide_eq_true (by first | (with_reducible assumption) | assumption)
                                          have q33 : x10_4 < (a0.size : Int) := of_decide_eq_true (by first | (with_reducible assumption) | assumption)
                                          have hx33 := bt_at a0 x10_4
                                          replace p33 := eq_true p33
                                          replace q33 := eq_true q33
                                          have p35 : 0 ≤ (x10_4 : Int) := of_decide_eq_true (by first | (with_reducible assumption) | assumption)
                                          have q35 : x10_4 < (a0.size : Int) := of_decide_eq_true (by first | (with_reducible assumption) | assumption)
                                          have hx35 := bt_at a0 x10_4
                                          replace p35 := eq_true p35
                                          replace q35 := eq_true q35
                                          have p37 : 0 ≤ (x10_4 : Int) := of_decide_eq_true (by first | (with_reducible assumption) | assumption)
                                          have q37 : x10_4 < (a0.size : Int) := of_decide_eq_true (by first | (with_reducible assumption) | assumption)
                                          have hx37 := bt_at a0 x10_4
                                          replace p37 := eq_true p37
                                          replace q37 := eq_true q37
                                          have p39 : 0 ≤ (x10_4 : Int) := of_decide_eq_true (by first | (with_reducible assumption) | assumption)
                                          have q39 : x10_4 < (a0.size : Int) := of_decide_eq_true (by first | (with_reducible assumption) | assumption)
                                          have hx39 := bt_at a0 x10_4
                                          replace p39 := eq_true p39
                                          replace q39 := eq_true q39
                                          go_wp2
                                          repeat (go_quiet (fail); try go_wp2)
                                          go_ret
                                          exact ⟨by first | rfl | (simp [errW_none, errW_some] <;> rfl) | (simp [*, errW_none, errW_some] <;> rfl), by repeat (first | (with_reducible first | exact HB.out | apply below_alloc | apply pw_below_drewN | apply below_drew1) | exact HB.out)⟩
                            · rw [if_neg c29] at H
                              exact absurd H (by simp)
                          · rw [if_neg c28] at H
                            exact absurd H (by simp)
                        · rw [if_neg c27] at H
                          have c27b0 : decide (x10_4 < x8_13) = false := decide_eq_false c27
                          clear c27
                          by_cases c41 : x7_2 < (t263.length : Int)
                          · rw [if_pos c41] at H
                            have c41b0 : decide (x7_2 < (t263.length : Int)) = true := decide_eq_true c41
                            clear c41
                            by_cases c42 : 0 ≤ x7_2
                            · rw [if_pos c42] at H
                              have c42b0 : decide (0 ≤ x7_2) = true := decide_eq_true c42
                              clear c42
                              have H' := Aside0.mk H
                              clear H
                              have p275 : 0 ≤ (x7_2 : Int) := of_decide_eq_true (by first | (with_reducible assumption) | assumption)
                              have q275 : x7_2 < (t263.length : Int) := of_decide_eq_true (by first | (with_reducible assumption) | assumption)
                              obtain ⟨ad275, e275, hx275_0, hx275_1, hx275_2⟩ := at_T37 (Kd.R_reads' HO_3.out).2.2 x7_2 p275 q275
                              cases e275
                              replace p275 := eq_true p275
                              replace q275 := eq_true q275
                              go_wp2
                              repeat (go_quiet (fail); try go_wp2)
                              go_roundg k4
                              case measure => have := HJ1.out; have := HK2.out; have := HJ13.out; have := HK4.out; omega
                              case rel => exact ⟨(wrap64 (x8_13 + (((rd_T37 t263 x7_2).f1).size : Int))), (wrap64 (x7_2 + 1)), (by first | rfl | (simp; done) | (simp [*]; done)), (by first | rfl | (simp; done) | (simp [*]; done)), H', ⟨by have := HJ1.out; have := HK2.out; have := HJ13.out; have := HK4.out; omega⟩, ⟨by (with_reducible repeat (first | apply Kd.R_alloc | apply Kd.R_drewN | apply Kd.R_drew)); exact HO_3.out⟩, ⟨by repeat (first | (with_reducible first | exact HB.out | apply below_alloc | apply pw_below_drewN | apply below_drew1) | exact HB.out)⟩⟩
                            · rw [if_neg c42] at H
                              exact absurd H (by simp)
                          · rw [if_neg c41] at H
                            have c41b0 : decide (x7_2 < (t263.length : Int)) = false := decide_eq_false c41
                            clear c41
                            have H' := Aside0.mk H
                            clear H
                            go_wp2
                            repeat (go_quiet (fail); try go_wp2)
                            go_roundg k4
                            case measure => have := HJ1.out; have := HK2.out; have := HJ13.out; have := HK4.out; omega
                            case rel => exact ⟨(x6_2), (wrap64 (x7_2 + 1)), (by first | rfl | (simp; done) | (simp [*]; done)), (by first | rfl | (simp; done) | (simp [*]; done)), H', ⟨by have := HJ1.out; have := HK2.out; have := HJ13.out; have := HK4.out; omega⟩, ⟨by (with_reducible repeat (first | apply Kd.R_alloc | apply Kd.R_drewN | apply Kd.R_drew)); exact HO_3.out⟩, ⟨by repeat (first | (with_reducible first | exact HB.out | apply below_alloc | apply pw_below_drewN | apply below_drew1) | exact HB.out)⟩⟩
              · rw [if_neg c13] at H
                have c13b0 : decide (x7_2 ≤ (t263.length : Int)) = false := decide_eq_false c13
                clear c13
                obtain rfl := Option.some.inj H
                obtain ⟨Ao43, co43, eo43⟩ := Kd.R_slice HO_3.out
                subst eo43
                go_wp2
                repeat (go_quiet (fail); try go_wp2)
                go_ret
                exact ⟨by first | rfl | (simp [errW_none, errW_some] <;> rfl) | (simp [*, errW_none, errW_some] <;> rfl), by repeat (first | (with_reducible first | exact HB.out | apply below_alloc | apply pw_below_drewN | apply below_drew1) | exact HB.out)⟩
        · rw [if_neg c11] at H
          have c11b0 : (t265 == 0) = false := beq_eq_false_iff_ne.mpr c11
          have c11b1 : (t265 != 0) = true := bne_iff_ne.mpr c11
          by_cases c44 : t265 = 4
          · rw [if_pos c44] at H
            have c44b0 : (t265 == 4) = true := beq_iff_eq.mpr c44
            have c44b1 : (t265 != 4) = false := bne_eq_false_iff_eq.mpr c44
            clear c44
            by_cases c45 : t264 ≥ 0
            · rw [if_pos c45] at H
              have c45b0 : decide (0 ≤ t264) = true := decide_eq_true c45
              clear c45
              by_cases c46 : t264 < (a0.size : Int)
              · rw [if_pos c46] at H
                have c46b0 : decide (t264 < (a0.size : Int)) = true := decide_eq_true c46
                clear c46
                obtain rfl := Option.some.inj H
                go_wp2_with (first | (go_at_call 17; (with_reducible refine (tokens_Read.calls kj1 a0 t263 t264 t265 _ A10.out).mono ?_); rintro e w47 ⟨v266, rfl, ho0, hb⟩; have n0_ := Aside0.mk (Kd.R_lower ho0 (below_size (by repeat (first | (with_reducible first | exact HB.out | apply below_alloc | apply pw_below_drewN | apply below_drew1) | exact HB.out)))); have n1_ := Aside0.mk (below_step (by repeat (first | (with_reducible first | exact HB.out | apply below_alloc | apply pw_below_drewN | apply below_drew1) | exact HB.out)) hb); clear HB; have HO267 := n0_; have HB := n1_; clear n0_ n1_; (try clear hb); (try clear hb2); (try clear hk); (try clear hi); (try clear ho0); obtain ⟨Ao48, co48, eo48⟩ := Kd.R_slice HO267.out; subst eo48))
                repeat (go_quiet (first | (go_at_call 17; (with_reducible refine (tokens_Read.calls kj1 a0 t263 t264 t265 _ A10.out).mono ?_); rintro e w47 ⟨v266, rfl, ho0, hb⟩; have n0_ := Aside0.mk (Kd.R_lower ho0 (below_size (by repeat (first | (with_reducible first | exact HB.out | apply below_alloc | apply pw_below_drewN | apply below_drew1) | exact HB.out)))); have n1_ := Aside0.mk (below_step (by repeat (first | (with_reducible first | exact HB.out | apply below_alloc | apply pw_below_drewN | apply below_drew1) | exact HB.out)) hb); clear HB; have HO267 := n0_; have HB := n1_; clear n0_ n1_; (try clear hb); (try clear hb2); (try clear hk); (try clear hi); (try clear ho0); obtain ⟨Ao48, co48, eo48⟩ := Kd.R_slice HO267.out; subst eo48)); try go_wp2_with (first | (go_at_call 17; (with_reducible refine (tokens_Read.calls kj1 a0 t263 t264 t265 _ A10.out).mono ?_); rintro e w47 ⟨v266, rfl, ho0, hb⟩; have n0_ := Aside0.mk (Kd.R_lower ho0 (below_size (by repeat (first | (with_reducible first | exact HB.out | apply below_alloc | apply pw_below_drewN | apply below_drew1) | exact HB.out)))); have n1_ := Aside0.mk (below_step (by repeat (first | (with_reducible first | exact HB.out | apply below_alloc | apply pw_below_drewN | apply below_drew1) | exact HB.out)) hb); clear HB; have HO267 := n0_; have HB := n1_; clear n0_ n1_; (try clear hb); (try clear hb2); (try clear hk); (try clear hi); (try clear ho0); obtain ⟨Ao48, co48, eo48⟩ := Kd.R_slice HO267.out; subst eo48)))
                go_ret
                exact ⟨by first | rfl | (simp [errW_none, errW_some] <;> rfl) | (simp [*, errW_none, errW_some] <;> rfl), by repeat (first | (with_reducible first | exact HB.out | apply below_alloc | apply pw_below_drewN | apply below_drew1) | exact HB.out)⟩
              · rw [if_neg c46] at H
                have c46b0 : decide (t264 < (a0.size : Int)) = false := decide_eq_false c46
                clear c46
                obtain rfl := Option.some.inj H
                go_wp2_with (first | (go_at_call 17; (with_reducible refine (tokens_Read.calls kj1 a0 t263 t264 t265 _ A10.out).mono ?_); rintro e w49 ⟨v266, rfl, ho0, hb⟩; have n0_ := Aside0.mk (Kd.R_lower ho0 (below_size (by repeat (first | (with_reducible first | exact HB.out | apply below_alloc | apply pw_below_drewN | apply below_drew1) | exact HB.out)))); have n1_ := Aside0.mk (below_step (by repeat (first | (with_reducible first | exact HB.out | apply below_alloc | apply pw_below_drewN | apply below_drew1) | exact HB.out)) hb); clear HB; have HO267 := n0_; have HB := n1_; clear n0_ n1_; (try clear hb); (try clear hb2); (try clear hk); (try clear hi); (try clear ho0)))
                repeat (go_quiet (first | (go_at_call 17; (with_reducible refine (tokens_Read.calls kj1 a0 t263 t264 t265 _ A10.out).mono ?_); rintro e w49 ⟨v266, rfl, ho0, hb⟩; have n0_ := Aside0.mk (Kd.R_lower ho0 (below_size (by repeat (first | (with_reducible first | exact HB.out | apply below_alloc | apply pw_below_drewN | apply below_drew1) | exact HB.out)))); have n1_ := Aside0.mk (below_step (by repeat (first | (with_reducible first | exact HB.out | apply below_alloc | apply pw_below_drewN | apply below_drew1) | exact HB.out)) hb); clear HB; have HO267 := n0_; have HB := n1_; clear n0_ n1_; (try clear hb); (try clear hb2); (try clear hk); (try clear hi); (try clear ho0))); try go_wp2_with (first | (go_at_call 17; (with_reducible refine (tokens_Read.calls kj1 a0 t263 t264 t265 _ A10.out).mono ?_); rintro e w49 ⟨v266, rfl, ho0, hb⟩; have n0_ := Aside0.mk (Kd.R_lower ho0 (below_size (by repeat (first | (with_reducible first | exact HB.out | apply below_alloc | apply pw_below_drewN | apply below_drew1) | exact HB.out)))); have n1_ := Aside0.mk (below_step (by repeat (first | (with_reducible first | exact HB.out | apply below_alloc | apply pw_below_drewN | apply below_drew1) | exact HB.out)) hb); clear HB; have HO267 := n0_; have HB := n1_; clear n0_ n1_; (try clear hb); (try clear hb2); (try clear hk); (try clear hi); (try clear ho0))))
                go_ret
                exact ⟨by first | rfl | (simp [errW_none, errW_some] <;> rfl) | (simp [*, errW_none, errW_some] <;> rfl), by repeat (first | (with_reducible first | exact HB.out | apply below_alloc | apply pw_below_drewN | apply below_drew1) | exact HB.out)⟩
            · rw [if_neg c45] at H
              have c45b0 : decide (0 ≤ t264) = false := decide_eq_false c45
              clear c45
              obtain rfl := Option.some.inj H
              go_wp2_with (first | (go_at_call 17; (with_reducible refine (tokens_Read.calls kj1 a0 t263 t264 t265 _ A10.out).mono ?_); rintro e w50 ⟨v266, rfl, ho0, hb⟩; have n0_ := Aside0.mk (Kd.R_lower ho0 (below_size (by repeat (first | (with_reducible first | exact HB.out | apply below_alloc | apply pw_below_drewN | apply below_drew1) | exact HB.out)))); have n1_ := Aside0.mk (below_step (by repeat (first | (with_reducible first | exact HB.out | apply below_alloc | apply pw_below_drewN | apply below_drew1) | exact HB.out)) hb); clear HB; have HO267 := n0_; have HB := n1_; clear n0_ n1_; (try clear hb); (try clear hb2); (try clear hk); (try clear hi); (try clear ho0)))
              repeat (go_quiet (first | (go_at_call 17; (with_reducible refine (tokens_Read.calls kj1 a0 t263 t264 t265 _ A10.out).mono ?_); rintro e w50 ⟨v266, rfl, ho0, hb⟩; have n0_ := Aside0.mk (Kd.R_lower ho0 (below_size (by repeat (first | (with_reducible first | exact HB.out | apply below_alloc | apply pw_below_drewN | apply below_drew1) | exact HB.out)))); have n1_ := Aside0.mk (below_step (by repeat (first | (with_reducible first | exact HB.out | apply below_alloc | apply pw_below_drewN | apply below_drew1) | exact HB.out)) hb); clear HB; have HO267 := n0_; have HB := n1_; clear n0_ n1_; (try clear hb); (try clear hb2); (try clear hk); (try clear hi); (try clear ho0))); try go_wp2_with (first | (go_at_call 17; (with_reducible refine (tokens_Read.calls kj1 a0 t263 t264 t265 _ A10.out).mono ?_); rintro e w50 ⟨v266, rfl, ho0, hb⟩; have n0_ := Aside0.mk (Kd.R_lower ho0 (below_size (by repeat (first | (with_reducible first | exact HB.out | apply below_alloc | apply pw_below_drewN | apply below_drew1) | exact HB.out)))); have n1_ := Aside0.mk (below_step (by repeat (first | (with_reducible first | exact HB.out | apply below_alloc | apply pw_below_drewN | apply below_drew1) | exact HB.out)) hb); clear HB; have HO267 := n0_; have HB := n1_; clear n0_ n1_; (try clear hb); (try clear hb2); (try clear hk); (try clear hi); (try clear ho0))))
              go_ret
              exact ⟨by first | rfl | (simp [errW_none, errW_some] <;> rfl) | (simp [*, errW_none, errW_some] <;> rfl), by repeat (first | (with_reducible first | exact HB.out | apply below_alloc | apply pw_below_drewN | apply below_drew1) | exact HB.out)⟩
          · rw [if_neg c44] at H
            have c44b0 : (t265 == 4) = false := beq_eq_false_iff_ne.mpr c44
            have c44b1 : (t265 != 4) = true := bne_iff_ne.mpr c44
            obtain rfl := Option.some.inj H
            go_wp2_with (first | (go_at_call 17; (with_reducible refine (tokens_Read.calls kj1 a0 t263 t264 t265 _ A10.out).mono ?_); rintro e w51 ⟨v266, rfl, ho0, hb⟩; have n0_ := Aside0.mk (Kd.R_lower ho0 (below_size (by repeat (first | (with_reducible first | exact HB.out | apply below_alloc | apply pw_below_drewN | apply below_drew1) | exact HB.out)))); have n1_ := Aside0.mk (below_step (by repeat (first | (with_reducible first | exact HB.out | apply below_alloc | apply pw_below_drewN | apply below_drew1) | exact HB.out)) hb); clear HB; have HO267 := n0_; have HB := n1_; clear n0_ n1_; (try clear hb); (try clear hb2); (try clear hk); (try clear hi); (try clear ho0)))
            repeat (go_quiet (first | (go_at_call 17; (with_reducible refine (tokens_Read.calls kj1 a0 t263 t264 t265 _ A10.out).mono ?_); rintro e w51 ⟨v266, rfl, ho0, hb⟩; have n0_ := Aside0.mk (Kd.R_lower ho0 (below_size (by repeat (first | (with_reducible first | exact HB.out | apply below_alloc | apply pw_below_drewN | apply below_drew1) | exact HB.out)))); have n1_ := Aside0.mk (below_step (by repeat (first | (with_reducible first | exact HB.out | apply below_alloc | apply pw_below_drewN | apply below_drew1) | exact HB.out)) hb); clear HB; have HO267 := n0_; have HB := n1_; clear n0_ n1_; (try clear hb); (try clear hb2); (try clear hk); (try clear hi); (try clear ho0))); try go_wp2_with (first | (go_at_call 17; (with_reducible refine (tokens_Read.calls kj1 a0 t263 t264 t265 _ A10.out).mono ?_); rintro e w51 ⟨v266, rfl, ho0, hb⟩; have n0_ := Aside0.mk (Kd.R_lower ho0 (below_size (by repeat (first | (with_reducible first | exact HB.out | apply below_alloc | apply pw_below_drewN | apply below_drew1) | exact HB.out)))); have n1_ := Aside0.mk (below_step (by repeat (first | (with_reducible first | exact HB.out | apply below_alloc | apply pw_below_drewN | apply below_drew1) | exact HB.out)) hb); clear HB; have HO267 := n0_; have HB := n1_; clear n0_ n1_; (try clear hb); (try clear hb2); (try clear hk); (try clear hi); (try clear ho0))))
            go_ret
            exact ⟨by first | rfl | (simp [errW_none, errW_some] <;> rfl) | (simp [*, errW_none, errW_some] <;> rfl), by repeat (first | (with_reducible first | exact HB.out | apply below_alloc | apply pw_below_drewN | apply below_drew1) | exact HB.out)⟩

/-- THE ONE PURE STATEMENT of assayerlaw06_TokensPlaces: yours. -/
def assayerlaw06_TokensPlaces.Pure : Prop := ∀ (a0 : ByteArray), a0.size ≤ 140737488351232 → ∃ k, assayerlaw06_TokensPlaces.f k a0 = some true
theorem assayerlaw06_TokensPlaces.walk (P : assayerlaw06_TokensPlaces.Pure) (a0 : ByteArray) (w : World) (w0 : a0.size ≤ 140737488351232) :
    Calls Try.prog 5 #[.string a0] w fun e w' => e = .returned (.bool true) ∧ Below w.heap.size w w' := by
  obtain ⟨k, h⟩ := P a0 w0
  refine (assayerlaw06_TokensPlaces.calls k a0 true w h).mono ?_
  rintro e w' ⟨rfl, hd⟩
  exact ⟨rfl, hd⟩

end Go.Proofs.Ytogmmdnfaoaaoaa.X
