-- Laid by wip/gen.py (a program of this session) over the kit's print.py, with hand-proved contracts among its functions. Not trusted: Lean checks it.
import Derived.Test.YtogmmdnfaoaaoaaX0
import Derived.Test.YtogmmdnfaoaaoaaX1
import Derived.Test.YtogmmdnfaoaaoaaX2
import Derived.Test.YtogmmdnfaoaaoaaX3
import Derived.Test.YtogmmdnfaoaaoaaX4
namespace Go.Proofs.Ytogmmdnfaoaaoaa.X
open Go.RowKit Go.Proofs.YtogmmdnfaoaaoaaW.PrintWords Go.Proofs.YtogmmdnfaoaaoaaW.PrintLast Go.Proofs.YtogmmdnfaoaaoaaW.PrintMore
attribute [local go_sem] max2_int min2_int max_two min_two max_three min_three max_four min_four   -- for this text's walks alone
set_option linter.unusedVariables false
set_option linter.unusedSimpArgs false

attribute [local go_sem high] eqA37
/-! ### assayerlaw06_TokensWords: function 9 -/
mutual
def assayerlaw06_TokensWords.j0 : Nat → ByteArray → Int → Bool → Option (Bool)
  | 0, _, _, _ => none
  | k + 1, x0, x1, x24 => if x24 = true then ((assayerlaw06_alive.f k).bind fun t278 => (some t278)) else ((tokens_Read.f k x0).bind fun bt279 => (if x1 ≥ 97 then (if x1 ≤ 122 then (assayerlaw06_TokensWords.j1 k x0 x1 bt279.1 bt279.2.2 true) else (if x1 ≥ 65 then (if x1 ≤ 90 then (assayerlaw06_TokensWords.j1 k x0 x1 bt279.1 bt279.2.2 true) else (if x1 ≥ 48 then (if x1 ≤ 57 then (assayerlaw06_TokensWords.j1 k x0 x1 bt279.1 bt279.2.2 true) else (assayerlaw06_TokensWords.j1 k x0 x1 bt279.1 bt279.2.2 (x1 == 95))) else (assayerlaw06_TokensWords.j1 k x0 x1 bt279.1 bt279.2.2 (x1 == 95)))) else (if x1 ≥ 48 then (if x1 ≤ 57 then (assayerlaw06_TokensWords.j1 k x0 x1 bt279.1 bt279.2.2 true) else (assayerlaw06_TokensWords.j1 k x0 x1 bt279.1 bt279.2.2 (x1 == 95))) else (assayerlaw06_TokensWords.j1 k x0 x1 bt279.1 bt279.2.2 (x1 == 95))))) else (if x1 ≥ 65 then (if x1 ≤ 90 then (assayerlaw06_TokensWords.j1 k x0 x1 bt279.1 bt279.2.2 true) else (if x1 ≥ 48 then (if x1 ≤ 57 then (assayerlaw06_TokensWords.j1 k x0 x1 bt279.1 bt279.2.2 true) else (assayerlaw06_TokensWords.j1 k x0 x1 bt279.1 bt279.2.2 (x1 == 95))) else (assayerlaw06_TokensWords.j1 k x0 x1 bt279.1 bt279.2.2 (x1 == 95)))) else (if x1 ≥ 48 then (if x1 ≤ 57 then (assayerlaw06_TokensWords.j1 k x0 x1 bt279.1 bt279.2.2 true) else (assayerlaw06_TokensWords.j1 k x0 x1 bt279.1 bt279.2.2 (x1 == 95))) else (assayerlaw06_TokensWords.j1 k x0 x1 bt279.1 bt279.2.2 (x1 == 95))))))
def assayerlaw06_TokensWords.j1 : Nat → ByteArray → Int → List (S37) → Int → Bool → Option (Bool)
  | 0, _, _, _, _, _ => none
  | k + 1, x0, x1, x5, x7, x8 => (some (([x1] : List Int) : List Int)).bind fun y284 => (if x0.size + (strOfNums y284).size ≤ 9223372036854775807 then ((tokens_Read.f k (x0 ++ (strOfNums y284))).bind fun bt287 => (if x7 = 0 then (if (x5.length : Int) = 1 then (if 0 < (x5.length : Int) then (if (!(((rd_T37 x5 0).f0) == 1) || (!((((rd_T37 x5 0).f1).toList) == x0.toList) || (!(((rd_T37 x5 0).f2) == 0)))) = true then (assayerlaw06_TokensWords.j2 k x0 x8 (x0 ++ (strOfNums y284)) bt287.1 bt287.2.2 true) else (assayerlaw06_TokensWords.j2 k x0 x8 (x0 ++ (strOfNums y284)) bt287.1 bt287.2.2 (decide ((x0.size : Int) > 32)))) else (none)) else (assayerlaw06_TokensWords.j2 k x0 x8 (x0 ++ (strOfNums y284)) bt287.1 bt287.2.2 true)) else (assayerlaw06_TokensWords.j2 k x0 x8 (x0 ++ (strOfNums y284)) bt287.1 bt287.2.2 true))) else (none))
def assayerlaw06_TokensWords.j2 : Nat → ByteArray → Bool → ByteArray → List (S37) → Int → Bool → Option (Bool)
  | 0, _, _, _, _, _, _ => none
  | k + 1, x0, x8, x9, x10, x12, x88 => if x88 = true then (some false) else (if x8 = true then (if x12 = 0 then (if (x10.length : Int) = 1 then (if 0 < (x10.length : Int) then (if ((rd_T37 x10 0).f1).toList = x9.toList then ((tokens_Name.f k x9).bind fun t294 => (if t294 = true then (some (decide ((x0.size : Int) < 32))) else (some true))) else (some false)) else (none)) else (some false)) else (some false)) else ((tokens_Name.f k x9).bind fun t295 => (if t295 = true then (some false) else (if x12 = 0 then (if (x10.length : Int) ≥ 1 then (if 0 < (x10.length : Int) then (some (((rd_T37 x10 0).f1).toList == x0.toList)) else (none)) else (some false)) else (some true)))))
end
def assayerlaw06_TokensWords.f (k : Nat) (a0 : ByteArray) (a1 : Int) : Option (Bool) := (assayerlaw06_alive.f k).bind fun t276 => (if t276 = true then (if (a0.size : Int) > 1000 then (assayerlaw06_TokensWords.j0 k a0 a1 true) else ((tokens_Name.f k a0).bind fun t277 => (assayerlaw06_TokensWords.j0 k a0 a1 (!t277)))) else (assayerlaw06_TokensWords.j0 k a0 a1 true))
theorem assayerlaw06_TokensWords.mono_l : ∀ k, (∀ y0 y1 y2, LeO (assayerlaw06_TokensWords.j0 k y0 y1 y2) (assayerlaw06_TokensWords.j0 (k + 1) y0 y1 y2)) ∧ (∀ y0 y1 y2 y3 y4, LeO (assayerlaw06_TokensWords.j1 k y0 y1 y2 y3 y4) (assayerlaw06_TokensWords.j1 (k + 1) y0 y1 y2 y3 y4)) ∧ (∀ y0 y1 y2 y3 y4 y5, LeO (assayerlaw06_TokensWords.j2 k y0 y1 y2 y3 y4 y5) (assayerlaw06_TokensWords.j2 (k + 1) y0 y1 y2 y3 y4 y5))
  | 0 => ⟨fun _ _ _ r h => by simp [assayerlaw06_TokensWords.j0] at h, fun _ _ _ _ _ r h => by simp [assayerlaw06_TokensWords.j1] at h, fun _ _ _ _ _ _ r h => by simp [assayerlaw06_TokensWords.j2] at h⟩
  | k + 1 => by
    obtain ⟨ih0, ih1, ih2⟩ := assayerlaw06_TokensWords.mono_l k
    refine ⟨?_, ?_, ?_⟩
    · intro y0 y1 y2
      unfold assayerlaw06_TokensWords.j0
      repeat' first
      | (with_reducible exact ih0 _ _ _)
      | (with_reducible exact ih1 _ _ _ _ _)
      | (with_reducible exact ih2 _ _ _ _ _ _)
      | (with_reducible exact assayerlaw06_alive.mono _)
      | (with_reducible exact tokens_Name.mono _ _)
      | (with_reducible exact tokens_Read.mono _ _)
      | (with_reducible exact LeO.refl _)
      | (with_reducible exact LeO.none _)
      | (with_reducible refine LeO.ite ?_ ?_)
      | (with_reducible refine LeO.bind ?_ (fun _ => ?_))
      | exact ih0 _ _ _
      | exact ih1 _ _ _ _ _
      | exact ih2 _ _ _ _ _ _
      | exact assayerlaw06_alive.mono _
      | exact tokens_Name.mono _ _
      | exact tokens_Read.mono _ _
      | exact LeO.none _
      | refine LeO.ite ?_ ?_
      | refine LeO.bind ?_ (fun _ => ?_)
    · intro y0 y1 y2 y3 y4
      unfold assayerlaw06_TokensWords.j1
      repeat' first
      | (with_reducible exact ih0 _ _ _)
      | (with_reducible exact ih1 _ _ _ _ _)
      | (with_reducible exact ih2 _ _ _ _ _ _)
      | (with_reducible exact assayerlaw06_alive.mono _)
      | (with_reducible exact tokens_Name.mono _ _)
      | (with_reducible exact tokens_Read.mono _ _)
      | (with_reducible exact LeO.refl _)
      | (with_reducible exact LeO.none _)
      | (with_reducible refine LeO.ite ?_ ?_)
      | (with_reducible refine LeO.bind ?_ (fun _ => ?_))
      | exact ih0 _ _ _
      | exact ih1 _ _ _ _ _
      | exact ih2 _ _ _ _ _ _
      | exact assayerlaw06_alive.mono _
      | exact tokens_Name.mono _ _
      | exact tokens_Read.mono _ _
      | exact LeO.none _
      | refine LeO.ite ?_ ?_
      | refine LeO.bind ?_ (fun _ => ?_)
    · intro y0 y1 y2 y3 y4 y5
      unfold assayerlaw06_TokensWords.j2
      repeat' first
      | (with_reducible exact ih0 _ _ _)
      | (with_reducible exact ih1 _ _ _ _ _)
      | (with_reducible exact ih2 _ _ _ _ _ _)
      | (with_reducible exact assayerlaw06_alive.mono _)
      | (with_reducible exact tokens_Name.mono _ _)
      | (with_reducible exact tokens_Read.mono _ _)
      | (with_reducible exact LeO.refl _)
      | (with_reducible exact LeO.none _)
      | (with_reducible refine LeO.ite ?_ ?_)
      | (with_reducible refine LeO.bind ?_ (fun _ => ?_))
      | exact ih0 _ _ _
      | exact ih1 _ _ _ _ _
      | exact ih2 _ _ _ _ _ _
      | exact assayerlaw06_alive.mono _
      | exact tokens_Name.mono _ _
      | exact tokens_Read.mono _ _
      | exact LeO.none _
      | refine LeO.ite ?_ ?_
      | refine LeO.bind ?_ (fun _ => ?_)
theorem assayerlaw06_TokensWords.mono : ∀ a0 a1 k, LeO (assayerlaw06_TokensWords.f k a0 a1) (assayerlaw06_TokensWords.f (k + 1) a0 a1) := by
  intro a0 a1 k
  obtain ⟨ih0, ih1, ih2⟩ := assayerlaw06_TokensWords.mono_l k
  unfold assayerlaw06_TokensWords.f
  repeat' first
      | (with_reducible exact ih0 _ _ _)
      | (with_reducible exact ih1 _ _ _ _ _)
      | (with_reducible exact ih2 _ _ _ _ _ _)
      | (with_reducible exact assayerlaw06_alive.mono _)
      | (with_reducible exact tokens_Name.mono _ _)
      | (with_reducible exact tokens_Read.mono _ _)
      | (with_reducible exact LeO.refl _)
      | (with_reducible exact LeO.none _)
      | (with_reducible refine LeO.ite ?_ ?_)
      | (with_reducible refine LeO.bind ?_ (fun _ => ?_))
      | exact ih0 _ _ _
      | exact ih1 _ _ _ _ _
      | exact ih2 _ _ _ _ _ _
      | exact assayerlaw06_alive.mono _
      | exact tokens_Name.mono _ _
      | exact tokens_Read.mono _ _
      | exact LeO.none _
      | refine LeO.ite ?_ ?_
      | refine LeO.bind ?_ (fun _ => ?_)
set_option maxHeartbeats 8000000 in
set_option maxRecDepth 100000 in
theorem assayerlaw06_TokensWords.calls (k : Nat) (a0 : ByteArray) (a1 : Int) (r : Bool) (w : World) (h : assayerlaw06_TokensWords.f k a0 a1 = some r) :
    Calls Try.prog 9 #[.string a0, .int .u8 a1] w fun e w' => e = .returned (.bool r) ∧ Below w.heap.size w w' := by
  have hu37 := Try.underlying37
  have HB := Aside0.mk (Below.refl w.heap.size w)
  have H : ((assayerlaw06_alive.f k).bind fun t276 => (if t276 = true then (if (a0.size : Int) > 1000 then (assayerlaw06_TokensWords.j0 k a0 a1 true) else ((tokens_Name.f k a0).bind fun t277 => (assayerlaw06_TokensWords.j0 k a0 a1 (!t277)))) else (assayerlaw06_TokensWords.j0 k a0 a1 true))) = some r := h
  clear h
  have HC3 := Aside0.mk H
  clear H
  go_enter Try.func9, Try.ntmps9
  go_upto_region 1 with (fail)
  go_cut [24] (fun v24 wc => ∃ (kq : Nat) (x24_2 : Bool), v24 = .bool x24_2 ∧ Aside0 (assayerlaw06_TokensWords.j0 kq a0 a1 x24_2 = some r) ∧ Aside0 (kq ≤ k) ∧ Aside0 (Below w.heap.size w wc))
  case first =>
    have H := HC3.out
    clear HC3
    replace H := Option.bind_eq_some_iff.mp H
    obtain ⟨t276, A40, H⟩ := H
    replace H : (if t276 = true then (if (a0.size : Int) > 1000 then (assayerlaw06_TokensWords.j0 k a0 a1 true) else ((tokens_Name.f k a0).bind fun t277 => (assayerlaw06_TokensWords.j0 k a0 a1 (!t277)))) else (assayerlaw06_TokensWords.j0 k a0 a1 true)) = some r := H
    have A4 := Aside0.mk A40
    clear A40
    by_cases c5 : t276 = true
    · subst c5
      have H1 : (if (a0.size : Int) > 1000 then (assayerlaw06_TokensWords.j0 k a0 a1 true) else ((tokens_Name.f k a0).bind fun t277 => (assayerlaw06_TokensWords.j0 k a0 a1 (!t277)))) = some r := by rw [if_pos rfl] at H; exact H
      clear H
      have H := H1
      clear H1
      by_cases c6 : (a0.size : Int) > 1000
      · rw [if_pos c6] at H
        have c6b0 : decide (1000 < (a0.size : Int)) = true := decide_eq_true c6
        have c6b1 : decide (1000 < a0.size) = true := decide_eq_true (by omega)
        clear c6
        (first | rw [c6b0] | (simp only [i64_w, i32_w]; rw [c6b0]) | skip)
        have H' := Aside0.mk H
        clear H
        go_wp2_with (first | ((with_reducible refine gate_callee (f := 16) rfl ?_); refine goesL_ (some 13) rfl rfl Try.func16 (by kernel_rfl) rfl #[] rfl (by (try simp only [List.map_toArray, List.map_cons, List.map_nil]); first | done | rfl | (simp only [List.length_drop, List.length_take]; rfl)) ?_; (with_reducible refine (assayerlaw06_alive.calls k  true _ A4.out).mono ?_); rintro e w7 ⟨rfl, hb⟩; refine ⟨_, rfl, ?_⟩; have n0_ := Aside0.mk (below_step (by repeat (first | (with_reducible first | exact HB.out | apply below_alloc | apply pw_below_drewN | apply below_drew1) | exact HB.out)) hb); clear HB; have HB := n0_; clear n0_; (try clear hb); (try clear hb2); (try clear hk); (try clear hi)))
        go_meet
        case rel => exact ⟨_, (true), (by first | rfl | (simp; done) | (simp [*]; done)), H', ⟨by first | omega | exact Nat.le_refl _⟩, ⟨by repeat (first | (with_reducible first | exact HB.out | apply below_alloc | apply pw_below_drewN | apply below_drew1) | exact HB.out)⟩⟩
      · rw [if_neg c6] at H
        have c6b0 : decide (1000 < (a0.size : Int)) = false := decide_eq_false c6
        have c6b1 : decide (1000 < a0.size) = false := decide_eq_false (by omega)
        clear c6
        (first | rw [c6b0] | (simp only [i64_w, i32_w]; rw [c6b0]) | skip)
        replace H := Option.bind_eq_some_iff.mp H
        obtain ⟨t277, A80, H⟩ := H
        replace H : (assayerlaw06_TokensWords.j0 k a0 a1 (!t277)) = some r := H
        have A8 := Aside0.mk A80
        clear A80
        have H' := Aside0.mk H
        clear H
        go_wp2_with (first | ((with_reducible refine gate_callee (f := 16) rfl ?_); refine goesL_ (some 13) rfl rfl Try.func16 (by kernel_rfl) rfl #[] rfl (by (try simp only [List.map_toArray, List.map_cons, List.map_nil]); first | done | rfl | (simp only [List.length_drop, List.length_take]; rfl)) ?_; (with_reducible refine (assayerlaw06_alive.calls k  true _ A4.out).mono ?_); rintro e w9 ⟨rfl, hb⟩; refine ⟨_, rfl, ?_⟩; have n0_ := Aside0.mk (below_step (by repeat (first | (with_reducible first | exact HB.out | apply below_alloc | apply pw_below_drewN | apply below_drew1) | exact HB.out)) hb); clear HB; have HB := n0_; clear n0_; (try clear hb); (try clear hb2); (try clear hk); (try clear hi)) | (go_at_call 12; (with_reducible refine (tokens_Name.calls k a0 t277 _ A8.out).mono ?_); rintro e w10 ⟨rfl, hb⟩; have n0_ := Aside0.mk (below_step (by repeat (first | (with_reducible first | exact HB.out | apply below_alloc | apply pw_below_drewN | apply below_drew1) | exact HB.out)) hb); clear HB; have HB := n0_; clear n0_; (try clear hb); (try clear hb2); (try clear hk); (try clear hi)))
        go_meet
        case rel => exact ⟨_, (!t277), (by first | rfl | (simp; done) | (simp [*]; done)), H', ⟨by first | omega | exact Nat.le_refl _⟩, ⟨by repeat (first | (with_reducible first | exact HB.out | apply below_alloc | apply pw_below_drewN | apply below_drew1) | exact HB.out)⟩⟩
    · replace c5 := Bool.eq_false_iff.mpr c5
      subst c5
      have H1 : (assayerlaw06_TokensWords.j0 k a0 a1 true) = some r := by rw [if_neg (show ¬ (false = true) by decide)] at H; exact H
      clear H
      have H := H1
      clear H1
      have H' := Aside0.mk H
      clear H
      go_wp2_with (first | ((with_reducible refine gate_callee (f := 16) rfl ?_); refine goesL_ (some 13) rfl rfl Try.func16 (by kernel_rfl) rfl #[] rfl (by (try simp only [List.map_toArray, List.map_cons, List.map_nil]); first | done | rfl | (simp only [List.length_drop, List.length_take]; rfl)) ?_; (with_reducible refine (assayerlaw06_alive.calls k  false _ A4.out).mono ?_); rintro e w11 ⟨rfl, hb⟩; refine ⟨_, rfl, ?_⟩; have n0_ := Aside0.mk (below_step (by repeat (first | (with_reducible first | exact HB.out | apply below_alloc | apply pw_below_drewN | apply below_drew1) | exact HB.out)) hb); clear HB; have HB := n0_; clear n0_; (try clear hb); (try clear hb2); (try clear hk); (try clear hi)))
      go_meet
      case rel => exact ⟨_, (true), (by first | rfl | (simp; done) | (simp [*]; done)), H', ⟨by first | omega | exact Nat.le_refl _⟩, ⟨by repeat (first | (with_reducible first | exact HB.out | apply below_alloc | apply pw_below_drewN | apply below_drew1) | exact HB.out)⟩⟩
  case rest =>
    clear HC3
    try clear c1
    try clear p2
    try clear c5
    try clear c6
    try clear c6b0
    try clear c6b1
    try clear c9
    obtain ⟨kq, x24_2, rfl, HA, HJ2, HB⟩ := hcut
    cases kq with
    | zero => exact absurd HA.out (by simp [assayerlaw06_TokensWords.j0])
    | succ kj2 =>
      have H := HA.out
      clear HA
      simp only [assayerlaw06_TokensWords.j0] at H
      by_cases c12 : x24_2 = true
      · subst c12
        have H1 : ((assayerlaw06_alive.f kj2).bind fun t278 => (some t278)) = some r := by rw [if_pos rfl] at H; exact H
        clear H
        have H := H1
        clear H1
        replace H := Option.bind_eq_some_iff.mp H
        obtain ⟨t278, A130, H⟩ := H
        replace H : (some t278) = some r := H
        have A13 := Aside0.mk A130
        clear A130
        obtain rfl := Option.some.inj H
        go_wp2_with (first | ((with_reducible refine gate_callee (f := 16) rfl ?_); refine goesL_ (some 25) rfl rfl Try.func16 (by kernel_rfl) rfl #[] rfl (by (try simp only [List.map_toArray, List.map_cons, List.map_nil]); first | done | rfl | (simp only [List.length_drop, List.length_take]; rfl)) ?_; (with_reducible refine (assayerlaw06_alive.calls kj2  t278 _ A13.out).mono ?_); rintro e w14 ⟨rfl, hb⟩; refine ⟨_, rfl, ?_⟩; have n0_ := Aside0.mk (below_step (by repeat (first | (with_reducible first | exact HB.out | apply below_alloc | apply pw_below_drewN | apply below_drew1) | exact HB.out)) hb); clear HB; have HB := n0_; clear n0_; (try clear hb); (try clear hb2); (try clear hk); (try clear hi)))
        go_ret
        exact ⟨by first | rfl | (simp [errW_none, errW_some] <;> rfl) | (simp [*, errW_none, errW_some] <;> rfl), by repeat (first | (with_reducible first | exact HB.out | apply below_alloc | apply pw_below_drewN | apply below_drew1) | exact HB.out)⟩
      · replace c12 := Bool.eq_false_iff.mpr c12
        subst c12
        have H1 : ((tokens_Read.f kj2 a0).bind fun bt279 => (if a1 ≥ 97 then (if a1 ≤ 122 then (assayerlaw06_TokensWords.j1 kj2 a0 a1 bt279.1 bt279.2.2 true) else (if a1 ≥ 65 then (if a1 ≤ 90 then (assayerlaw06_TokensWords.j1 kj2 a0 a1 bt279.1 bt279.2.2 true) else (if a1 ≥ 48 then (if a1 ≤ 57 then (assayerlaw06_TokensWords.j1 kj2 a0 a1 bt279.1 bt279.2.2 true) else (assayerlaw06_TokensWords.j1 kj2 a0 a1 bt279.1 bt279.2.2 (a1 == 95))) else (assayerlaw06_TokensWords.j1 kj2 a0 a1 bt279.1 bt279.2.2 (a1 == 95)))) else (if a1 ≥ 48 then (if a1 ≤ 57 then (assayerlaw06_TokensWords.j1 kj2 a0 a1 bt279.1 bt279.2.2 true) else (assayerlaw06_TokensWords.j1 kj2 a0 a1 bt279.1 bt279.2.2 (a1 == 95))) else (assayerlaw06_TokensWords.j1 kj2 a0 a1 bt279.1 bt279.2.2 (a1 == 95))))) else (if a1 ≥ 65 then (if a1 ≤ 90 then (assayerlaw06_TokensWords.j1 kj2 a0 a1 bt279.1 bt279.2.2 true) else (if a1 ≥ 48 then (if a1 ≤ 57 then (assayerlaw06_TokensWords.j1 kj2 a0 a1 bt279.1 bt279.2.2 true) else (assayerlaw06_TokensWords.j1 kj2 a0 a1 bt279.1 bt279.2.2 (a1 == 95))) else (assayerlaw06_TokensWords.j1 kj2 a0 a1 bt279.1 bt279.2.2 (a1 == 95)))) else (if a1 ≥ 48 then (if a1 ≤ 57 then (assayerlaw06_TokensWords.j1 kj2 a0 a1 bt279.1 bt279.2.2 true) else (assayerlaw06_TokensWords.j1 kj2 a0 a1 bt279.1 bt279.2.2 (a1 == 95))) else (assayerlaw06_TokensWords.j1 kj2 a0 a1 bt279.1 bt279.2.2 (a1 == 95)))))) = some r := by rw [if_neg (show ¬ (false = true) by decide)] at H; exact H
        clear H
        have H := H1
        clear H1
        replace H := Option.bind_eq_some_iff.mp H
        obtain ⟨⟨t279, t280, t281⟩, A150, H⟩ := H
        replace H : (if a1 ≥ 97 then (if a1 ≤ 122 then (assayerlaw06_TokensWords.j1 kj2 a0 a1 t279 t281 true) else (if a1 ≥ 65 then (if a1 ≤ 90 then (assayerlaw06_TokensWords.j1 kj2 a0 a1 t279 t281 true) else (if a1 ≥ 48 then (if a1 ≤ 57 then (assayerlaw06_TokensWords.j1 kj2 a0 a1 t279 t281 true) else (assayerlaw06_TokensWords.j1 kj2 a0 a1 t279 t281 (a1 == 95))) else (assayerlaw06_TokensWords.j1 kj2 a0 a1 t279 t281 (a1 == 95)))) else (if a1 ≥ 48 then (if a1 ≤ 57 then (assayerlaw06_TokensWords.j1 kj2 a0 a1 t279 t281 true) else (assayerlaw06_TokensWords.j1 kj2 a0 a1 t279 t281 (a1 == 95))) else (assayerlaw06_TokensWords.j1 kj2 a0 a1 t279 t281 (a1 == 95))))) else (if a1 ≥ 65 then (if a1 ≤ 90 then (assayerlaw06_TokensWords.j1 kj2 a0 a1 t279 t281 true) else (if a1 ≥ 48 then (if a1 ≤ 57 then (assayerlaw06_TokensWords.j1 kj2 a0 a1 t279 t281 true) else (assayerlaw06_TokensWords.j1 kj2 a0 a1 t279 t281 (a1 == 95))) else (assayerlaw06_TokensWords.j1 kj2 a0 a1 t279 t281 (a1 == 95)))) else (if a1 ≥ 48 then (if a1 ≤ 57 then (assayerlaw06_TokensWords.j1 kj2 a0 a1 t279 t281 true) else (assayerlaw06_TokensWords.j1 kj2 a0 a1 t279 t281 (a1 == 95))) else (assayerlaw06_TokensWords.j1 kj2 a0 a1 t279 t281 (a1 == 95))))) = some r := H
        have A15 := Aside0.mk A150
        clear A150
        have HC16 := Aside0.mk H
        clear H
        go_upto_region 4 with (first | ((with_reducible refine gate_callee (f := 17) rfl ?_); refine goesL_ (some 28) rfl rfl Try.func17 (by kernel_rfl) rfl #[.string a0] rfl (by (try simp only [List.map_toArray, List.map_cons, List.map_nil]); first | done | rfl | (simp only [List.length_drop, List.length_take]; rfl)) ?_; (with_reducible refine (tokens_Read.calls kj2 a0 t279 t280 t281 _ A15.out).mono ?_); rintro e w17 ⟨v282, rfl, ho0, hb⟩; refine ⟨_, rfl, ?_⟩; have n0_ := Aside0.mk (Kd.R_lower ho0 (below_size (by repeat (first | (with_reducible first | exact HB.out | apply below_alloc | apply pw_below_drewN | apply below_drew1) | exact HB.out)))); have n1_ := Aside0.mk (below_step (by repeat (first | (with_reducible first | exact HB.out | apply below_alloc | apply pw_below_drewN | apply below_drew1) | exact HB.out)) hb); clear HB; have HO283 := n0_; have HB := n1_; clear n0_ n1_; (try clear hb); (try clear hb2); (try clear hk); (try clear hi); (try clear ho0)))
        (try simp only [Act.put, List.setIfInBounds_toArray, List.set_cons_zero, List.set_cons_succ])
        go_cut [8] (fun v8 wc => ∃ (kq : Nat) (x8_15 : Bool), v8 = .bool x8_15 ∧ Aside0 (assayerlaw06_TokensWords.j1 kq a0 a1 t279 t281 x8_15 = some r) ∧ Aside0 (kq ≤ kj2) ∧ Aside0 (Kd.R k37 37 wc w.heap.size (fun _ => True) v282 t279) ∧ Aside0 (Below w.heap.size w wc))
        case first =>
          have H := HC16.out
          clear HC16
          by_cases c18 : a1 ≥ 97
          · rw [if_pos c18] at H
            have c18b0 : decide (97 ≤ a1) = true := decide_eq_true c18
            clear c18
            (first | rw [c18b0] | (simp only [i64_w, i32_w]; rw [c18b0]) | skip)
            by_cases c19 : a1 ≤ 122
            · rw [if_pos c19] at H
              have c19b0 : decide (a1 ≤ 122) = true := decide_eq_true c19
              clear c19
              have H' := Aside0.mk H
              clear H
              go_wp2
              go_meet
              case rel => exact ⟨_, (true), (by first | rfl | (simp; done) | (simp [*]; done)), H', ⟨by have := HJ2.out; first | omega | exact Nat.le_refl _⟩, ⟨by (with_reducible repeat (first | apply Kd.R_alloc | apply Kd.R_drewN | apply Kd.R_drew)); exact HO283.out⟩, ⟨by repeat (first | (with_reducible first | exact HB.out | apply below_alloc | apply pw_below_drewN | apply below_drew1) | exact HB.out)⟩⟩
            · rw [if_neg c19] at H
              have c19b0 : decide (a1 ≤ 122) = false := decide_eq_false c19
              clear c19
              by_cases c20 : a1 ≥ 65
              · rw [if_pos c20] at H
                have c20b0 : decide (65 ≤ a1) = true := decide_eq_true c20
                clear c20
                by_cases c21 : a1 ≤ 90
                · rw [if_pos c21] at H
                  have c21b0 : decide (a1 ≤ 90) = true := decide_eq_true c21
                  clear c21
                  have H' := Aside0.mk H
                  clear H
                  go_wp2
                  go_meet
                  case rel => exact ⟨_, (true), (by first | rfl | (simp; done) | (simp [*]; done)), H', ⟨by have := HJ2.out; first | omega | exact Nat.le_refl _⟩, ⟨by (with_reducible repeat (first | apply Kd.R_alloc | apply Kd.R_drewN | apply Kd.R_drew)); exact HO283.out⟩, ⟨by repeat (first | (with_reducible first | exact HB.out | apply below_alloc | apply pw_below_drewN | apply below_drew1) | exact HB.out)⟩⟩
                · rw [if_neg c21] at H
                  have c21b0 : decide (a1 ≤ 90) = false := decide_eq_false c21
                  clear c21
                  by_cases c22 : a1 ≥ 48
                  · rw [if_pos c22] at H
                    have c22b0 : decide (48 ≤ a1) = true := decide_eq_true c22
                    clear c22
                    by_cases c23 : a1 ≤ 57
                    · rw [if_pos c23] at H
                      have c23b0 : decide (a1 ≤ 57) = true := decide_eq_true c23
                      clear c23
                      have H' := Aside0.mk H
                      clear H
                      go_wp2
                      go_meet
                      case rel => exact ⟨_, (true), (by first | rfl | (simp; done) | (simp [*]; done)), H', ⟨by have := HJ2.out; first | omega | exact Nat.le_refl _⟩, ⟨by (with_reducible repeat (first | apply Kd.R_alloc | apply Kd.R_drewN | apply Kd.R_drew)); exact HO283.out⟩, ⟨by repeat (first | (with_reducible first | exact HB.out | apply below_alloc | apply pw_below_drewN | apply below_drew1) | exact HB.out)⟩⟩
                    · rw [if_neg c23] at H
                      have c23b0 : decide (a1 ≤ 57) = false := decide_eq_false c23
                      clear c23
                      have H' := Aside0.mk H
                      clear H
                      go_wp2
                      go_meet
                      case rel => exact ⟨_, ((a1 == 95)), (by first | rfl | (simp; done) | (simp [*]; done)), H', ⟨by have := HJ2.out; first | omega | exact Nat.le_refl _⟩, ⟨by (with_reducible repeat (first | apply Kd.R_alloc | apply Kd.R_drewN | apply Kd.R_drew)); exact HO283.out⟩, ⟨by repeat (first | (with_reducible first | exact HB.out | apply below_alloc | apply pw_below_drewN | apply below_drew1) | exact HB.out)⟩⟩
                  · rw [if_neg c22] at H
                    have c22b0 : decide (48 ≤ a1) = false := decide_eq_false c22
                    clear c22
                    have H' := Aside0.mk H
                    clear H
                    go_wp2
                    go_meet
                    case rel => exact ⟨_, ((a1 == 95)), (by first | rfl | (simp; done) | (simp [*]; done)), H', ⟨by have := HJ2.out; first | omega | exact Nat.le_refl _⟩, ⟨by (with_reducible repeat (first | apply Kd.R_alloc | apply Kd.R_drewN | apply Kd.R_drew)); exact HO283.out⟩, ⟨by repeat (first | (with_reducible first | exact HB.out | apply below_alloc | apply pw_below_drewN | apply below_drew1) | exact HB.out)⟩⟩
              · rw [if_neg c20] at H
                have c20b0 : decide (65 ≤ a1) = false := decide_eq_false c20
                clear c20
                by_cases c24 : a1 ≥ 48
                · rw [if_pos c24] at H
                  have c24b0 : decide (48 ≤ a1) = true := decide_eq_true c24
                  clear c24
                  by_cases c25 : a1 ≤ 57
                  · rw [if_pos c25] at H
                    have c25b0 : decide (a1 ≤ 57) = true := decide_eq_true c25
                    clear c25
                    have H' := Aside0.mk H
                    clear H
                    go_wp2
                    go_meet
                    case rel => exact ⟨_, (true), (by first | rfl | (simp; done) | (simp [*]; done)), H', ⟨by have := HJ2.out; first | omega | exact Nat.le_refl _⟩, ⟨by (with_reducible repeat (first | apply Kd.R_alloc | apply Kd.R_drewN | apply Kd.R_drew)); exact HO283.out⟩, ⟨by repeat (first | (with_reducible first | exact HB.out | apply below_alloc | apply pw_below_drewN | apply below_drew1) | exact HB.out)⟩⟩
                  · rw [if_neg c25] at H
                    have c25b0 : decide (a1 ≤ 57) = false := decide_eq_false c25
                    clear c25
                    have H' := Aside0.mk H
                    clear H
                    go_wp2
                    go_meet
                    case rel => exact ⟨_, ((a1 == 95)), (by first | rfl | (simp; done) | (simp [*]; done)), H', ⟨by have := HJ2.out; first | omega | exact Nat.le_refl _⟩, ⟨by (with_reducible repeat (first | apply Kd.R_alloc | apply Kd.R_drewN | apply Kd.R_drew)); exact HO283.out⟩, ⟨by repeat (first | (with_reducible first | exact HB.out | apply below_alloc | apply pw_below_drewN | apply below_drew1) | exact HB.out)⟩⟩
                · rw [if_neg c24] at H
                  have c24b0 : decide (48 ≤ a1) = false := decide_eq_false c24
                  clear c24
                  have H' := Aside0.mk H
                  clear H
                  go_wp2
                  go_meet
                  case rel => exact ⟨_, ((a1 == 95)), (by first | rfl | (simp; done) | (simp [*]; done)), H', ⟨by have := HJ2.out; first | omega | exact Nat.le_refl _⟩, ⟨by (with_reducible repeat (first | apply Kd.R_alloc | apply Kd.R_drewN | apply Kd.R_drew)); exact HO283.out⟩, ⟨by repeat (first | (with_reducible first | exact HB.out | apply below_alloc | apply pw_below_drewN | apply below_drew1) | exact HB.out)⟩⟩
          · rw [if_neg c18] at H
            have c18b0 : decide (97 ≤ a1) = false := decide_eq_false c18
            clear c18
            (first | rw [c18b0] | (simp only [i64_w, i32_w]; rw [c18b0]) | skip)
            by_cases c26 : a1 ≥ 65
            · rw [if_pos c26] at H
              have c26b0 : decide (65 ≤ a1) = true := decide_eq_true c26
              clear c26
              by_cases c27 : a1 ≤ 90
              · rw [if_pos c27] at H
                have c27b0 : decide (a1 ≤ 90) = true := decide_eq_true c27
                clear c27
                have H' := Aside0.mk H
                clear H
                go_wp2
                go_meet
                case rel => exact ⟨_, (true), (by first | rfl | (simp; done) | (simp [*]; done)), H', ⟨by have := HJ2.out; first | omega | exact Nat.le_refl _⟩, ⟨by (with_reducible repeat (first | apply Kd.R_alloc | apply Kd.R_drewN | apply Kd.R_drew)); exact HO283.out⟩, ⟨by repeat (first | (with_reducible first | exact HB.out | apply below_alloc | apply pw_below_drewN | apply below_drew1) | exact HB.out)⟩⟩
              · rw [if_neg c27] at H
                have c27b0 : decide (a1 ≤ 90) = false := decide_eq_false c27
                clear c27
                by_cases c28 : a1 ≥ 48
                · rw [if_pos c28] at H
                  have c28b0 : decide (48 ≤ a1) = true := decide_eq_true c28
                  clear c28
                  by_cases c29 : a1 ≤ 57
                  · rw [if_pos c29] at H
                    have c29b0 : decide (a1 ≤ 57) = true := decide_eq_true c29
                    clear c29
                    have H' := Aside0.mk H
                    clear H
                    go_wp2
                    go_meet
                    case rel => exact ⟨_, (true), (by first | rfl | (simp; done) | (simp [*]; done)), H', ⟨by have := HJ2.out; first | omega | exact Nat.le_refl _⟩, ⟨by (with_reducible repeat (first | apply Kd.R_alloc | apply Kd.R_drewN | apply Kd.R_drew)); exact HO283.out⟩, ⟨by repeat (first | (with_reducible first | exact HB.out | apply below_alloc | apply pw_below_drewN | apply below_drew1) | exact HB.out)⟩⟩
                  · rw [if_neg c29] at H
                    have c29b0 : decide (a1 ≤ 57) = false := decide_eq_false c29
                    clear c29
                    have H' := Aside0.mk H
                    clear H
                    go_wp2
                    go_meet
                    case rel => exact ⟨_, ((a1 == 95)), (by first | rfl | (simp; done) | (simp [*]; done)), H', ⟨by have := HJ2.out; first | omega | exact Nat.le_refl _⟩, ⟨by (with_reducible repeat (first | apply Kd.R_alloc | apply Kd.R_drewN | apply Kd.R_drew)); exact HO283.out⟩, ⟨by repeat (first | (with_reducible first | exact HB.out | apply below_alloc | apply pw_below_drewN | apply below_drew1) | exact HB.out)⟩⟩
                · rw [if_neg c28] at H
                  have c28b0 : decide (48 ≤ a1) = false := decide_eq_false c28
                  clear c28
                  have H' := Aside0.mk H
                  clear H
                  go_wp2
                  go_meet
                  case rel => exact ⟨_, ((a1 == 95)), (by first | rfl | (simp; done) | (simp [*]; done)), H', ⟨by have := HJ2.out; first | omega | exact Nat.le_refl _⟩, ⟨by (with_reducible repeat (first | apply Kd.R_alloc | apply Kd.R_drewN | apply Kd.R_drew)); exact HO283.out⟩, ⟨by repeat (first | (with_reducible first | exact HB.out | apply below_alloc | apply pw_below_drewN | apply below_drew1) | exact HB.out)⟩⟩
            · rw [if_neg c26] at H
              have c26b0 : decide (65 ≤ a1) = false := decide_eq_false c26
              clear c26
              by_cases c30 : a1 ≥ 48
              · rw [if_pos c30] at H
                have c30b0 : decide (48 ≤ a1) = true := decide_eq_true c30
                clear c30
                by_cases c31 : a1 ≤ 57
                · rw [if_pos c31] at H
                  have c31b0 : decide (a1 ≤ 57) = true := decide_eq_true c31
                  clear c31
                  have H' := Aside0.mk H
                  clear H
                  go_wp2
                  go_meet
                  case rel => exact ⟨_, (true), (by first | rfl | (simp; done) | (simp [*]; done)), H', ⟨by have := HJ2.out; first | omega | exact Nat.le_refl _⟩, ⟨by (with_reducible repeat (first | apply Kd.R_alloc | apply Kd.R_drewN | apply Kd.R_drew)); exact HO283.out⟩, ⟨by repeat (first | (with_reducible first | exact HB.out | apply below_alloc | apply pw_below_drewN | apply below_drew1) | exact HB.out)⟩⟩
                · rw [if_neg c31] at H
                  have c31b0 : decide (a1 ≤ 57) = false := decide_eq_false c31
                  clear c31
                  have H' := Aside0.mk H
                  clear H
                  go_wp2
                  go_meet
                  case rel => exact ⟨_, ((a1 == 95)), (by first | rfl | (simp; done) | (simp [*]; done)), H', ⟨by have := HJ2.out; first | omega | exact Nat.le_refl _⟩, ⟨by (with_reducible repeat (first | apply Kd.R_alloc | apply Kd.R_drewN | apply Kd.R_drew)); exact HO283.out⟩, ⟨by repeat (first | (with_reducible first | exact HB.out | apply below_alloc | apply pw_below_drewN | apply below_drew1) | exact HB.out)⟩⟩
              · rw [if_neg c30] at H
                have c30b0 : decide (48 ≤ a1) = false := decide_eq_false c30
                clear c30
                have H' := Aside0.mk H
                clear H
                go_wp2
                go_meet
                case rel => exact ⟨_, ((a1 == 95)), (by first | rfl | (simp; done) | (simp [*]; done)), H', ⟨by have := HJ2.out; first | omega | exact Nat.le_refl _⟩, ⟨by (with_reducible repeat (first | apply Kd.R_alloc | apply Kd.R_drewN | apply Kd.R_drew)); exact HO283.out⟩, ⟨by repeat (first | (with_reducible first | exact HB.out | apply below_alloc | apply pw_below_drewN | apply below_drew1) | exact HB.out)⟩⟩
        case rest =>
          clear HC16
          try clear c1
          try clear c2
          try clear p2
          try clear c3
          try clear c5
          try clear c6
          try clear c6b0
          try clear c6b1
          try clear c9
          try clear c12
          try clear c16
          try clear c17
          try clear c18
          try clear c18b0
          try clear c19
          try clear c19b0
          try clear c20
          try clear c20b0
          try clear c21
          try clear c21b0
          try clear c22
          try clear c22b0
          try clear c23
          try clear c23b0
          try clear c24
          try clear c24b0
          try clear c25
          try clear c25b0
          try clear c26
          try clear c26b0
          try clear c27
          try clear c27b0
          try clear c28
          try clear c28b0
          try clear c29
          try clear c29b0
          try clear c30
          try clear c30b0
          try clear c31
          try clear c31b0
          try clear p2
          obtain ⟨kq, x8_15, rfl, HA, HJ15, HO_5, HB⟩ := hcut
          cases kq with
          | zero => exact absurd HA.out (by simp [assayerlaw06_TokensWords.j1])
          | succ kj15 =>
            have H := HA.out
            clear HA
            simp only [assayerlaw06_TokensWords.j1] at H
            obtain ⟨y284, hy284⟩ : ∃ y_ : List Int, y_ = (([a1] : List Int)) := ⟨_, rfl⟩
            replace H : (if a0.size + (strOfNums y284).size ≤ 9223372036854775807 then ((tokens_Read.f kj15 (a0 ++ (strOfNums y284))).bind fun bt287 => (if t281 = 0 then (if (t279.length : Int) = 1 then (if 0 < (t279.length : Int) then (if (!(((rd_T37 t279 0).f0) == 1) || (!((((rd_T37 t279 0).f1).toList) == a0.toList) || (!(((rd_T37 t279 0).f2) == 0)))) = true then (assayerlaw06_TokensWords.j2 kj15 a0 x8_15 (a0 ++ (strOfNums y284)) bt287.1 bt287.2.2 true) else (assayerlaw06_TokensWords.j2 kj15 a0 x8_15 (a0 ++ (strOfNums y284)) bt287.1 bt287.2.2 (decide ((a0.size : Int) > 32)))) else (none)) else (assayerlaw06_TokensWords.j2 kj15 a0 x8_15 (a0 ++ (strOfNums y284)) bt287.1 bt287.2.2 true)) else (assayerlaw06_TokensWords.j2 kj15 a0 x8_15 (a0 ++ (strOfNums y284)) bt287.1 bt287.2.2 true))) else (none)) = some r := by first | (rw [hy284]; with_reducible exact H) | (have H2_ := (Option.bind_some _ _).symm.trans H; rw [hy284]; with_reducible exact H2_) | (have H2_ := (Option.bind_some _ _).symm.trans H; with_reducible exact H2_) | with_reducible exact H | (rw [hy284]; exact H) | exact H
            have Ny284 := Aside0.mk hy284
            clear hy284
            by_cases c32 : a0.size + (strOfNums y284).size ≤ 9223372036854775807
            · rw [if_pos c32] at H
              have c32b0 := eq_true c32
              have c32b1 : decide (a0.size + (strOfNums y284).size ≤ 9223372036854775807) = true := decide_eq_true c32
              try have c32b2 : (9223372036854775807 < a0.size + (strOfNums y284).size) = False := eq_false (Nat.not_lt.2 c32)
              replace H := Option.bind_eq_some_iff.mp H
              obtain ⟨⟨t287, t288, t289⟩, A330, H⟩ := H
              replace H : (if t281 = 0 then (if (t279.length : Int) = 1 then (if 0 < (t279.length : Int) then (if (!(((rd_T37 t279 0).f0) == 1) || (!((((rd_T37 t279 0).f1).toList) == a0.toList) || (!(((rd_T37 t279 0).f2) == 0)))) = true then (assayerlaw06_TokensWords.j2 kj15 a0 x8_15 (a0 ++ (strOfNums y284)) t287 t289 true) else (assayerlaw06_TokensWords.j2 kj15 a0 x8_15 (a0 ++ (strOfNums y284)) t287 t289 (decide ((a0.size : Int) > 32)))) else (none)) else (assayerlaw06_TokensWords.j2 kj15 a0 x8_15 (a0 ++ (strOfNums y284)) t287 t289 true)) else (assayerlaw06_TokensWords.j2 kj15 a0 x8_15 (a0 ++ (strOfNums y284)) t287 t289 true)) = some r := H
              have A33 := Aside0.mk A330
              clear A330
              have HC34 := Aside0.mk H
              clear H
              go_upto_region 7 with (first | ((with_reducible refine gate_dst (N := 60) rfl ?_); (try (refine gate_guard (by rfl) ?_; dsimp only)); refine Kd.R_lit (Kd.int .u8) _ 5 ?hg (N := 60) ?hd (xs := ([a1] : List Int)) (inner := [.int .u8 a1]) (ok := fun _ => True) (okp := fun _ => True) ?hr ?hp (fun _ hk => hk) trivial (Below.refl _ _) (Nat.le_refl _) (by simp) ?_; (case hd => rfl); (case hg => rfl); (case hr => first | (go_simp; done) | (go_simp; rfl)); (case hp => exact (Reps.one (show Kd.M (Kd.int .u8) _ _ _ a1 [.int .u8 a1] from rfl) (Reps.none _ _))); intro v285 w35 ho36 hb hg_ hnew_; clear hg_ hnew_; (first | rw [← Ny284.out] at ho36 | (simp only [Int.reduceToNat] at ho36; rw [← Ny284.out] at ho36)); have n0_ := Aside0.mk (Kd.R_below (by (with_reducible repeat (first | apply Kd.R_alloc | apply Kd.R_drewN | apply Kd.R_drew)); exact HO_5.out) hb); have n1_ := Aside0.mk (Kd.R_lower ho36 (below_size (by repeat (first | (with_reducible first | exact HB.out | apply below_alloc | apply pw_below_drewN | apply below_drew1) | exact HB.out)))); have n2_ := Aside0.mk (below_step (by repeat (first | (with_reducible first | exact HB.out | apply below_alloc | apply pw_below_drewN | apply below_drew1) | exact HB.out)) hb); clear HO_5; clear HB; have HO_5 := n0_; have HO286 := n1_; have HB := n2_; clear n0_ n1_ n2_; clear hb ho36; have hcv37 := own_string (P := Try.prog) Try.underlying44 Try.underlying5 Try.underlying9 (Kd.own_of_R HO286.out)) | ((with_reducible refine gate_callee (f := 17) rfl ?_); refine goesL_ (some 65) rfl rfl Try.func17 (by kernel_rfl) rfl #[.string (a0 ++ (strOfNums y284))] rfl (by (try simp only [List.map_toArray, List.map_cons, List.map_nil]); first | done | rfl | (simp only [List.length_drop, List.length_take]; rfl)) ?_; (with_reducible refine (tokens_Read.calls kj15 (a0 ++ (strOfNums y284)) t287 t288 t289 _ A33.out).mono ?_); rintro e w38 ⟨v290, rfl, ho0, hb⟩; refine ⟨_, rfl, ?_⟩; have n0_ := Aside0.mk (Kd.R_elder' (by (with_reducible repeat (first | apply Kd.R_alloc | apply Kd.R_drewN | apply Kd.R_drew)); exact HO_5.out) (Kd.R_base ho0) hb); have n1_ := Aside0.mk (Kd.R_below (by (with_reducible repeat (first | apply Kd.R_alloc | apply Kd.R_drewN | apply Kd.R_drew)); exact HO286.out) hb); have n2_ := Aside0.mk (Kd.R_lower (Kd.R_new' ho0 (Kd.R_lt (by (with_reducible repeat (first | apply Kd.R_alloc | apply Kd.R_drewN | apply Kd.R_drew)); exact HO_5.out))) (below_size (by repeat (first | (with_reducible first | exact HB.out | apply below_alloc | apply pw_below_drewN | apply below_drew1) | exact HB.out)))); have n3_ := Aside0.mk (below_step (by repeat (first | (with_reducible first | exact HB.out | apply below_alloc | apply pw_below_drewN | apply below_drew1) | exact HB.out)) hb); clear HO_5; clear HO286; clear HB; have HO_5 := n0_; have HO286 := n1_; have HO291 := n2_; have HB := n3_; clear n0_ n1_ n2_ n3_; (try clear hb); (try clear hb2); (try clear hk); (try clear hi); (try clear ho0)))
              (try simp only [Act.put, List.setIfInBounds_toArray, List.set_cons_zero, List.set_cons_succ])
              go_cut [88] (fun v88 wc => ∃ (kq : Nat) (x88_33 : Bool), v88 = .bool x88_33 ∧ Aside0 (assayerlaw06_TokensWords.j2 kq a0 x8_15 (a0 ++ (strOfNums y284)) t287 t289 x88_33 = some r) ∧ Aside0 (kq ≤ kj15) ∧ Aside0 (Kd.R k37 37 wc w.heap.size (fun _ => True) v290 t287) ∧ Aside0 (Below w.heap.size w wc))
              case first =>
                have H := HC34.out
                clear HC34
                by_cases c39 : t281 = 0
                · rw [if_pos c39] at H
                  have c39b0 : (t281 == 0) = true := beq_iff_eq.mpr c39
                  have c39b1 : (t281 != 0) = false := bne_eq_false_iff_eq.mpr c39
                  clear c39
                  (first | rw [c39b0] | (simp only [i64_w, i32_w]; rw [c39b0]) | skip)
                  by_cases c40 : (t279.length : Int) = 1
                  · rw [if_pos c40] at H
                    have c40b0 : ((t279.length : Int) == 1) = true := beq_iff_eq.mpr c40
                    have c40b1 : ((t279.length : Int) != 1) = false := bne_eq_false_iff_eq.mpr c40
                    clear c40
                    by_cases c41 : 0 < (t279.length : Int)
                    · rw [if_pos c41] at H
                      have c41b0 : decide (0 < (t279.length : Int)) = true := decide_eq_true c41
                      have c41b1 : decide (0 < t279.length) = true := decide_eq_true (by omega)
                      clear c41
                      by_cases c42 : (!(((rd_T37 t279 0).f0) == 1) || (!((((rd_T37 t279 0).f1).toList) == a0.toList) || (!(((rd_T37 t279 0).f2) == 0)))) = true
                      · rw [if_pos c42] at H
                        have c42b0 : (!(((rd_T37 t279 0).f0) == 1) || (!((((rd_T37 t279 0).f1).toList) == a0.toList) || (!(((rd_T37 t279 0).f2) == 0)))) = true := c42
                        clear c42
                        have H' := Aside0.mk H
                        clear H
                        obtain ⟨Ao43, co43, eo43⟩ := Kd.R_slice HO_5.out
                        subst eo43
                        have p292 : 0 ≤ (0 : Int) := (by omega)
                        have q292 : 0 < (t279.length : Int) := of_decide_eq_true (by first | (with_reducible assumption) | assumption)
                        obtain ⟨ad292, e292, hx292_0, hx292_1, hx292_2⟩ := at_T37 (Kd.R_reads' HO_5.out).2.2 0 p292 q292
                        cases e292
                        have qi292 : (0 < t279.length) = True := eq_true (by omega)
                        (try rw [show ((0 : Int)).toNat = 0 from rfl] at hx292_0)
                        (try rw [show 0 * 3 = 0 from rfl] at hx292_0)
                        (try rw [Addr.add_zero'] at hx292_0)
                        (try rw [show ((0 : Int)).toNat = 0 from rfl] at hx292_1)
                        (try rw [show 0 * 3 = 0 from rfl] at hx292_1)
                        (try rw [Addr.add_zero'] at hx292_1)
                        (try rw [show ((0 : Int)).toNat = 0 from rfl] at hx292_2)
                        (try rw [show 0 * 3 = 0 from rfl] at hx292_2)
                        (try rw [Addr.add_zero'] at hx292_2)
                        replace p292 := eq_true p292
                        replace q292 := eq_true q292
                        go_wp2
                        go_meet
                        case rel => exact ⟨_, (true), (by first | rfl | (simp; done) | (simp [*]; done)), H', ⟨by have := HJ2.out; have := HJ15.out; first | omega | exact Nat.le_refl _⟩, ⟨by (with_reducible repeat (first | apply Kd.R_alloc | apply Kd.R_drewN | apply Kd.R_drew)); exact Kd.R_mono HO291.out (fun _ hk => trivial)⟩, ⟨by repeat (first | (with_reducible first | exact HB.out | apply below_alloc | apply pw_below_drewN | apply below_drew1) | exact HB.out)⟩⟩
                      · rw [if_neg c42] at H
                        have c42b0 : (!(((rd_T37 t279 0).f0) == 1) || (!((((rd_T37 t279 0).f1).toList) == a0.toList) || (!(((rd_T37 t279 0).f2) == 0)))) = false := by simpa using c42
                        clear c42
                        have H' := Aside0.mk H
                        clear H
                        obtain ⟨Ao44, co44, eo44⟩ := Kd.R_slice HO_5.out
                        subst eo44
                        have p292 : 0 ≤ (0 : Int) := (by omega)
                        have q292 : 0 < (t279.length : Int) := of_decide_eq_true (by first | (with_reducible assumption) | assumption)
                        obtain ⟨ad292, e292, hx292_0, hx292_1, hx292_2⟩ := at_T37 (Kd.R_reads' HO_5.out).2.2 0 p292 q292
                        cases e292
                        have qi292 : (0 < t279.length) = True := eq_true (by omega)
                        (try rw [show ((0 : Int)).toNat = 0 from rfl] at hx292_0)
                        (try rw [show 0 * 3 = 0 from rfl] at hx292_0)
                        (try rw [Addr.add_zero'] at hx292_0)
                        (try rw [show ((0 : Int)).toNat = 0 from rfl] at hx292_1)
                        (try rw [show 0 * 3 = 0 from rfl] at hx292_1)
                        (try rw [Addr.add_zero'] at hx292_1)
                        (try rw [show ((0 : Int)).toNat = 0 from rfl] at hx292_2)
                        (try rw [show 0 * 3 = 0 from rfl] at hx292_2)
                        (try rw [Addr.add_zero'] at hx292_2)
                        replace p292 := eq_true p292
                        replace q292 := eq_true q292
                        go_wp2
                        go_meet
                        case rel => exact ⟨_, (decide ((a0.size : Int) > 32)), (by first | rfl | (simp; done) | (simp [*]; done)), H', ⟨by have := HJ2.out; have := HJ15.out; first | omega | exact Nat.le_refl _⟩, ⟨by (with_reducible repeat (first | apply Kd.R_alloc | apply Kd.R_drewN | apply Kd.R_drew)); exact Kd.R_mono HO291.out (fun _ hk => trivial)⟩, ⟨by repeat (first | (with_reducible first | exact HB.out | apply below_alloc | apply pw_below_drewN | apply below_drew1) | exact HB.out)⟩⟩
                    · rw [if_neg c41] at H
                      exact absurd H (by simp)
                  · rw [if_neg c40] at H
                    have c40b0 : ((t279.length : Int) == 1) = false := beq_eq_false_iff_ne.mpr c40
                    have c40b1 : ((t279.length : Int) != 1) = true := bne_iff_ne.mpr c40
                    have H' := Aside0.mk H
                    clear H
                    obtain ⟨Ao45, co45, eo45⟩ := Kd.R_slice HO_5.out
                    subst eo45
                    go_wp2
                    go_meet
                    case rel => exact ⟨_, (true), (by first | rfl | (simp; done) | (simp [*]; done)), H', ⟨by have := HJ2.out; have := HJ15.out; first | omega | exact Nat.le_refl _⟩, ⟨by (with_reducible repeat (first | apply Kd.R_alloc | apply Kd.R_drewN | apply Kd.R_drew)); exact Kd.R_mono HO291.out (fun _ hk => trivial)⟩, ⟨by repeat (first | (with_reducible first | exact HB.out | apply below_alloc | apply pw_below_drewN | apply below_drew1) | exact HB.out)⟩⟩
                · rw [if_neg c39] at H
                  have c39b0 : (t281 == 0) = false := beq_eq_false_iff_ne.mpr c39
                  have c39b1 : (t281 != 0) = true := bne_iff_ne.mpr c39
                  (first | rw [c39b0] | (simp only [i64_w, i32_w]; rw [c39b0]) | skip)
                  have H' := Aside0.mk H
                  clear H
                  go_wp2
                  go_meet
                  case rel => exact ⟨_, (true), (by first | rfl | (simp; done) | (simp [*]; done)), H', ⟨by have := HJ2.out; have := HJ15.out; first | omega | exact Nat.le_refl _⟩, ⟨by (with_reducible repeat (first | apply Kd.R_alloc | apply Kd.R_drewN | apply Kd.R_drew)); exact Kd.R_mono HO291.out (fun _ hk => trivial)⟩, ⟨by repeat (first | (with_reducible first | exact HB.out | apply below_alloc | apply pw_below_drewN | apply below_drew1) | exact HB.out)⟩⟩
              case rest =>
                clear HC34
                try clear c1
                try clear c2
                try clear p2
                try clear q2
                try clear hx2
                try clear qi2
                try clear c3
                try clear hcv3
                try clear c4
                try clear c5
                try clear c6
                try clear c6b0
                try clear c6b1
                try clear c9
                try clear c12
                try clear c16
                try clear c17
                try clear c18
                try clear c18b0
                try clear c19
                try clear c19b0
                try clear c20
                try clear c20b0
                try clear c21
                try clear c21b0
                try clear c22
                try clear c22b0
                try clear c23
                try clear c23b0
                try clear c24
                try clear c24b0
                try clear c25
                try clear c25b0
                try clear c26
                try clear c26b0
                try clear c27
                try clear c27b0
                try clear c28
                try clear c28b0
                try clear c29
                try clear c29b0
                try clear p29
                try clear q29
                try clear hx29
                try clear qi29
                try clear c30
                try clear c30b0
                try clear c31
                try clear c31b0
                try clear c32
                try clear c32b0
                try clear c32b1
                try clear c32b2
                try clear hcv37
                try clear c39
                try clear c39b0
                try clear c39b1
                try clear c40
                try clear c40b0
                try clear c40b1
                try clear c41
                try clear c41b0
                try clear c41b1
                try clear c42
                try clear c42b0
                try clear hx292_0
                try clear hx292_1
                try clear hx292_2
                try clear p2
                try clear p292
                try clear q292
                obtain ⟨kq, x88_33, rfl, HA, HJ33, HO_10, HB⟩ := hcut
                cases kq with
                | zero => exact absurd HA.out (by simp [assayerlaw06_TokensWords.j2])
                | succ kj33 =>
                  have H := HA.out
                  clear HA
                  simp only [assayerlaw06_TokensWords.j2] at H
                  by_cases c46 : x88_33 = true
                  · subst c46
                    have H1 : (some false) = some r := by rw [if_pos rfl] at H; exact H
                    clear H
                    have H := H1
                    clear H1
                    obtain rfl := Option.some.inj H
                    go_wp2
                    go_ret
                    exact ⟨by first | rfl | (simp [errW_none, errW_some] <;> rfl) | (simp [*, errW_none, errW_some] <;> rfl), by repeat (first | (with_reducible first | exact HB.out | apply below_alloc | apply pw_below_drewN | apply below_drew1) | exact HB.out)⟩
                  · replace c46 := Bool.eq_false_iff.mpr c46
                    subst c46
                    have H1 : (if x8_15 = true then (if t289 = 0 then (if (t287.length : Int) = 1 then (if 0 < (t287.length : Int) then (if ((rd_T37 t287 0).f1).toList = (a0 ++ (strOfNums y284)).toList then ((tokens_Name.f kj33 (a0 ++ (strOfNums y284))).bind fun t294 => (if t294 = true then (some (decide ((a0.size : Int) < 32))) else (some true))) else (some false)) else (none)) else (some false)) else (some false)) else ((tokens_Name.f kj33 (a0 ++ (strOfNums y284))).bind fun t295 => (if t295 = true then (some false) else (if t289 = 0 then (if (t287.length : Int) ≥ 1 then (if 0 < (t287.length : Int) then (some (((rd_T37 t287 0).f1).toList == a0.toList)) else (none)) else (some false)) else (some true))))) = some r := by rw [if_neg (show ¬ (false = true) by decide)] at H; exact H
                    clear H
                    have H := H1
                    clear H1
                    by_cases c47 : x8_15 = true
                    · subst c47
                      have H1 : (if t289 = 0 then (if (t287.length : Int) = 1 then (if 0 < (t287.length : Int) then (if ((rd_T37 t287 0).f1).toList = (a0 ++ (strOfNums y284)).toList then ((tokens_Name.f kj33 (a0 ++ (strOfNums y284))).bind fun t294 => (if t294 = true then (some (decide ((a0.size : Int) < 32))) else (some true))) else (some false)) else (none)) else (some false)) else (some false)) = some r := by rw [if_pos rfl] at H; exact H
                      clear H
                      have H := H1
                      clear H1
                      by_cases c48 : t289 = 0
                      · rw [if_pos c48] at H
                        have c48b0 : (t289 == 0) = true := beq_iff_eq.mpr c48
                        have c48b1 : (t289 != 0) = false := bne_eq_false_iff_eq.mpr c48
                        clear c48
                        by_cases c49 : (t287.length : Int) = 1
                        · rw [if_pos c49] at H
                          have c49b0 : ((t287.length : Int) == 1) = true := beq_iff_eq.mpr c49
                          have c49b1 : ((t287.length : Int) != 1) = false := bne_eq_false_iff_eq.mpr c49
                          clear c49
                          by_cases c50 : 0 < (t287.length : Int)
                          · rw [if_pos c50] at H
                            have c50b0 : decide (0 < (t287.length : Int)) = true := decide_eq_true c50
                            have c50b1 : decide (0 < t287.length) = true := decide_eq_true (by omega)
                            clear c50
                            by_cases c51 : ((rd_T37 t287 0).f1).toList = (a0 ++ (strOfNums y284)).toList
                            · rw [if_pos c51] at H
                              have c51b0 : (((rd_T37 t287 0).f1).toList == (a0 ++ (strOfNums y284)).toList) = true := beq_iff_eq.mpr c51
                              have c51b1 : (((rd_T37 t287 0).f1).toList != (a0 ++ (strOfNums y284)).toList) = false := bne_eq_false_iff_eq.mpr c51
                              clear c51
                              replace H := Option.bind_eq_some_iff.mp H
                              obtain ⟨t294, A520, H⟩ := H
                              replace H : (if t294 = true then (some (decide ((a0.size : Int) < 32))) else (some true)) = some r := H
                              have A52 := Aside0.mk A520
                              clear A520
                              by_cases c53 : t294 = true
                              · subst c53
                                have H1 : (some (decide ((a0.size : Int) < 32))) = some r := by rw [if_pos rfl] at H; exact H
                                clear H
                                have H := H1
                                clear H1
                                obtain rfl := Option.some.inj H
                                obtain ⟨Ao54, co54, eo54⟩ := Kd.R_slice HO_10.out
                                subst eo54
                                have p293 : 0 ≤ (0 : Int) := (by omega)
                                have q293 : 0 < (t287.length : Int) := of_decide_eq_true (by first | (with_reducible assumption) | assumption)
                                obtain ⟨ad293, e293, hx293_0, hx293_1, hx293_2⟩ := at_T37 (Kd.R_reads' HO_10.out).2.2 0 p293 q293
                                cases e293
                                have qi293 : (0 < t287.length) = True := eq_true (by omega)
                                (try rw [show ((0 : Int)).toNat = 0 from rfl] at hx293_0)
                                (try rw [show 0 * 3 = 0 from rfl] at hx293_0)
                                (try rw [Addr.add_zero'] at hx293_0)
                                (try rw [show ((0 : Int)).toNat = 0 from rfl] at hx293_1)
                                (try rw [show 0 * 3 = 0 from rfl] at hx293_1)
                                (try rw [Addr.add_zero'] at hx293_1)
                                (try rw [show ((0 : Int)).toNat = 0 from rfl] at hx293_2)
                                (try rw [show 0 * 3 = 0 from rfl] at hx293_2)
                                (try rw [Addr.add_zero'] at hx293_2)
                                replace p293 := eq_true p293
                                replace q293 := eq_true q293
                                go_wp2_with (first | (go_at_call 12; (with_reducible refine (tokens_Name.calls kj33 (a0 ++ (strOfNums y284)) true _ A52.out).mono ?_); rintro e w55 ⟨rfl, hb⟩; have n0_ := Aside0.mk (Kd.R_below (by (with_reducible repeat (first | apply Kd.R_alloc | apply Kd.R_drewN | apply Kd.R_drew)); exact HO_10.out) hb); have n1_ := Aside0.mk (below_step (by repeat (first | (with_reducible first | exact HB.out | apply below_alloc | apply pw_below_drewN | apply below_drew1) | exact HB.out)) hb); clear HO_10; clear HB; have HO_10 := n0_; have HB := n1_; clear n0_ n1_; (try clear hb); (try clear hb2); (try clear hk); (try clear hi)))
                                go_ret
                                exact ⟨by first | rfl | (simp [errW_none, errW_some] <;> rfl) | (simp [*, errW_none, errW_some] <;> rfl), by repeat (first | (with_reducible first | exact HB.out | apply below_alloc | apply pw_below_drewN | apply below_drew1) | exact HB.out)⟩
                              · replace c53 := Bool.eq_false_iff.mpr c53
                                subst c53
                                have H1 : (some true) = some r := by rw [if_neg (show ¬ (false = true) by decide)] at H; exact H
                                clear H
                                have H := H1
                                clear H1
                                obtain rfl := Option.some.inj H
                                obtain ⟨Ao56, co56, eo56⟩ := Kd.R_slice HO_10.out
                                subst eo56
                                have p293 : 0 ≤ (0 : Int) := (by omega)
                                have q293 : 0 < (t287.length : Int) := of_decide_eq_true (by first | (with_reducible assumption) | assumption)
                                obtain ⟨ad293, e293, hx293_0, hx293_1, hx293_2⟩ := at_T37 (Kd.R_reads' HO_10.out).2.2 0 p293 q293
                                cases e293
                                have qi293 : (0 < t287.length) = True := eq_true (by omega)
                                (try rw [show ((0 : Int)).toNat = 0 from rfl] at hx293_0)
                                (try rw [show 0 * 3 = 0 from rfl] at hx293_0)
                                (try rw [Addr.add_zero'] at hx293_0)
                                (try rw [show ((0 : Int)).toNat = 0 from rfl] at hx293_1)
                                (try rw [show 0 * 3 = 0 from rfl] at hx293_1)
                                (try rw [Addr.add_zero'] at hx293_1)
                                (try rw [show ((0 : Int)).toNat = 0 from rfl] at hx293_2)
                                (try rw [show 0 * 3 = 0 from rfl] at hx293_2)
                                (try rw [Addr.add_zero'] at hx293_2)
                                replace p293 := eq_true p293
                                replace q293 := eq_true q293
                                go_wp2_with (first | (go_at_call 12; (with_reducible refine (tokens_Name.calls kj33 (a0 ++ (strOfNums y284)) false _ A52.out).mono ?_); rintro e w57 ⟨rfl, hb⟩; have n0_ := Aside0.mk (Kd.R_below (by (with_reducible repeat (first | apply Kd.R_alloc | apply Kd.R_drewN | apply Kd.R_drew)); exact HO_10.out) hb); have n1_ := Aside0.mk (below_step (by repeat (first | (with_reducible first | exact HB.out | apply below_alloc | apply pw_below_drewN | apply below_drew1) | exact HB.out)) hb); clear HO_10; clear HB; have HO_10 := n0_; have HB := n1_; clear n0_ n1_; (try clear hb); (try clear hb2); (try clear hk); (try clear hi)))
                                go_ret
                                exact ⟨by first | rfl | (simp [errW_none, errW_some] <;> rfl) | (simp [*, errW_none, errW_some] <;> rfl), by repeat (first | (with_reducible first | exact HB.out | apply below_alloc | apply pw_below_drewN | apply below_drew1) | exact HB.out)⟩
                            · rw [if_neg c51] at H
                              have c51b0 : (((rd_T37 t287 0).f1).toList == (a0 ++ (strOfNums y284)).toList) = false := beq_eq_false_iff_ne.mpr c51
                              have c51b1 : (((rd_T37 t287 0).f1).toList != (a0 ++ (strOfNums y284)).toList) = true := bne_iff_ne.mpr c51
                              obtain rfl := Option.some.inj H
                              obtain ⟨Ao58, co58, eo58⟩ := Kd.R_slice HO_10.out
                              subst eo58
                              have p293 : 0 ≤ (0 : Int) := (by omega)
                              have q293 : 0 < (t287.length : Int) := of_decide_eq_true (by first | (with_reducible assumption) | assumption)
                              obtain ⟨ad293, e293, hx293_0, hx293_1, hx293_2⟩ := at_T37 (Kd.R_reads' HO_10.out).2.2 0 p293 q293
                              cases e293
                              have qi293 : (0 < t287.length) = True := eq_true (by omega)
                              (try rw [show ((0 : Int)).toNat = 0 from rfl] at hx293_0)
                              (try rw [show 0 * 3 = 0 from rfl] at hx293_0)
                              (try rw [Addr.add_zero'] at hx293_0)
                              (try rw [show ((0 : Int)).toNat = 0 from rfl] at hx293_1)
                              (try rw [show 0 * 3 = 0 from rfl] at hx293_1)
                              (try rw [Addr.add_zero'] at hx293_1)
                              (try rw [show ((0 : Int)).toNat = 0 from rfl] at hx293_2)
                              (try rw [show 0 * 3 = 0 from rfl] at hx293_2)
                              (try rw [Addr.add_zero'] at hx293_2)
                              replace p293 := eq_true p293
                              replace q293 := eq_true q293
                              go_wp2
                              go_ret
                              exact ⟨by first | rfl | (simp [errW_none, errW_some] <;> rfl) | (simp [*, errW_none, errW_some] <;> rfl), by repeat (first | (with_reducible first | exact HB.out | apply below_alloc | apply pw_below_drewN | apply below_drew1) | exact HB.out)⟩
                          · rw [if_neg c50] at H
                            exact absurd H (by simp)
                        · rw [if_neg c49] at H
                          have c49b0 : ((t287.length : Int) == 1) = false := beq_eq_false_iff_ne.mpr c49
                          have c49b1 : ((t287.length : Int) != 1) = true := bne_iff_ne.mpr c49
                          obtain rfl := Option.some.inj H
                          obtain ⟨Ao59, co59, eo59⟩ := Kd.R_slice HO_10.out
                          subst eo59
                          go_wp2
                          go_ret
                          exact ⟨by first | rfl | (simp [errW_none, errW_some] <;> rfl) | (simp [*, errW_none, errW_some] <;> rfl), by repeat (first | (with_reducible first | exact HB.out | apply below_alloc | apply pw_below_drewN | apply below_drew1) | exact HB.out)⟩
                      · rw [if_neg c48] at H
                        have c48b0 : (t289 == 0) = false := beq_eq_false_iff_ne.mpr c48
                        have c48b1 : (t289 != 0) = true := bne_iff_ne.mpr c48
                        obtain rfl := Option.some.inj H
                        go_wp2
                        go_ret
                        exact ⟨by first | rfl | (simp [errW_none, errW_some] <;> rfl) | (simp [*, errW_none, errW_some] <;> rfl), by repeat (first | (with_reducible first | exact HB.out | apply below_alloc | apply pw_below_drewN | apply below_drew1) | exact HB.out)⟩
                    · replace c47 := Bool.eq_false_iff.mpr c47
                      subst c47
                      have H1 : ((tokens_Name.f kj33 (a0 ++ (strOfNums y284))).bind fun t295 => (if t295 = true then (some false) else (if t289 = 0 then (if (t287.length : Int) ≥ 1 then (if 0 < (t287.length : Int) then (some (((rd_T37 t287 0).f1).toList == a0.toList)) else (none)) else (some false)) else (some true)))) = some r := by rw [if_neg (show ¬ (false = true) by decide)] at H; exact H
                      clear H
                      have H := H1
                      clear H1
                      replace H := Option.bind_eq_some_iff.mp H
                      obtain ⟨t295, A600, H⟩ := H
                      replace H : (if t295 = true then (some false) else (if t289 = 0 then (if (t287.length : Int) ≥ 1 then (if 0 < (t287.length : Int) then (some (((rd_T37 t287 0).f1).toList == a0.toList)) else (none)) else (some false)) else (some true))) = some r := H
                      have A60 := Aside0.mk A600
                      clear A600
                      by_cases c61 : t295 = true
                      · subst c61
                        have H1 : (some false) = some r := by rw [if_pos rfl] at H; exact H
                        clear H
                        have H := H1
                        clear H1
                        obtain rfl := Option.some.inj H
                        go_wp2_with (first | ((with_reducible refine gate_callee (f := 12) rfl ?_); refine goesL_ (some 116) rfl rfl Try.func12 (by kernel_rfl) rfl #[.string (a0 ++ (strOfNums y284))] rfl (by (try simp only [List.map_toArray, List.map_cons, List.map_nil]); first | done | rfl | (simp only [List.length_drop, List.length_take]; rfl)) ?_; (with_reducible refine (tokens_Name.calls kj33 (a0 ++ (strOfNums y284)) true _ A60.out).mono ?_); rintro e w62 ⟨rfl, hb⟩; refine ⟨_, rfl, ?_⟩; have n0_ := Aside0.mk (Kd.R_below (by (with_reducible repeat (first | apply Kd.R_alloc | apply Kd.R_drewN | apply Kd.R_drew)); exact HO_10.out) hb); have n1_ := Aside0.mk (below_step (by repeat (first | (with_reducible first | exact HB.out | apply below_alloc | apply pw_below_drewN | apply below_drew1) | exact HB.out)) hb); clear HO_10; clear HB; have HO_10 := n0_; have HB := n1_; clear n0_ n1_; (try clear hb); (try clear hb2); (try clear hk); (try clear hi)))
                        go_ret
                        exact ⟨by first | rfl | (simp [errW_none, errW_some] <;> rfl) | (simp [*, errW_none, errW_some] <;> rfl), by repeat (first | (with_reducible first | exact HB.out | apply below_alloc | apply pw_below_drewN | apply below_drew1) | exact HB.out)⟩
                      · replace c61 := Bool.eq_false_iff.mpr c61
                        subst c61
                        have H1 : (if t289 = 0 then (if (t287.length : Int) ≥ 1 then (if 0 < (t287.length : Int) then (some (((rd_T37 t287 0).f1).toList == a0.toList)) else (none)) else (some false)) else (some true)) = some r := by rw [if_neg (show ¬ (false = true) by decide)] at H; exact H
                        clear H
                        have H := H1
                        clear H1
                        by_cases c63 : t289 = 0
                        · rw [if_pos c63] at H
                          have c63b0 : (t289 == 0) = true := beq_iff_eq.mpr c63
                          have c63b1 : (t289 != 0) = false := bne_eq_false_iff_eq.mpr c63
                          clear c63
                          by_cases c64 : (t287.length : Int) ≥ 1
                          · rw [if_pos c64] at H
                            have c64b0 : decide (1 ≤ (t287.length : Int)) = true := decide_eq_true c64
                            have c64b1 : decide (1 ≤ t287.length) = true := decide_eq_true (by omega)
                            clear c64
                            by_cases c65 : 0 < (t287.length : Int)
                            · rw [if_pos c65] at H
                              have c65b0 : decide (0 < (t287.length : Int)) = true := decide_eq_true c65
                              have c65b1 : decide (0 < t287.length) = true := decide_eq_true (by omega)
                              clear c65
                              obtain rfl := Option.some.inj H
                              go_wp2_with (first | ((with_reducible refine gate_callee (f := 12) rfl ?_); refine goesL_ (some 116) rfl rfl Try.func12 (by kernel_rfl) rfl #[.string (a0 ++ (strOfNums y284))] rfl (by (try simp only [List.map_toArray, List.map_cons, List.map_nil]); first | done | rfl | (simp only [List.length_drop, List.length_take]; rfl)) ?_; (with_reducible refine (tokens_Name.calls kj33 (a0 ++ (strOfNums y284)) false _ A60.out).mono ?_); rintro e w66 ⟨rfl, hb⟩; refine ⟨_, rfl, ?_⟩; have n0_ := Aside0.mk (Kd.R_below (by (with_reducible repeat (first | apply Kd.R_alloc | apply Kd.R_drewN | apply Kd.R_drew)); exact HO_10.out) hb); have n1_ := Aside0.mk (below_step (by repeat (first | (with_reducible first | exact HB.out | apply below_alloc | apply pw_below_drewN | apply below_drew1) | exact HB.out)) hb); clear HO_10; clear HB; have HO_10 := n0_; have HB := n1_; clear n0_ n1_; (try clear hb); (try clear hb2); (try clear hk); (try clear hi); obtain ⟨Ao67, co67, eo67⟩ := Kd.R_slice HO_10.out; subst eo67; have p296 : 0 ≤ (0 : Int) := (by omega); have q296 : 0 < (t287.length : Int) := of_decide_eq_true (by first | (with_reducible assumption) | assumption); obtain ⟨ad296, e296, hx296_0, hx296_1, hx296_2⟩ := at_T37 (Kd.R_reads' HO_10.out).2.2 0 p296 q296; cases e296; have qi296 : (0 < t287.length) = True := eq_true (by omega); (try rw [show ((0 : Int)).toNat = 0 from rfl] at hx296_0); (try rw [show 0 * 3 = 0 from rfl] at hx296_0); (try rw [Addr.add_zero'] at hx296_0); (try rw [show ((0 : Int)).toNat = 0 from rfl] at hx296_1); (try rw [show 0 * 3 = 0 from rfl] at hx296_1); (try rw [Addr.add_zero'] at hx296_1); (try rw [show ((0 : Int)).toNat = 0 from rfl] at hx296_2); (try rw [show 0 * 3 = 0 from rfl] at hx296_2); (try rw [Addr.add_zero'] at hx296_2); replace p296 := eq_true p296; replace q296 := eq_true q296))
                              go_ret
                              exact ⟨by first | rfl | (simp [errW_none, errW_some] <;> rfl) | (simp [*, errW_none, errW_some] <;> rfl), by repeat (first | (with_reducible first | exact HB.out | apply below_alloc | apply pw_below_drewN | apply below_drew1) | exact HB.out)⟩
                            · rw [if_neg c65] at H
                              exact absurd H (by simp)
                          · rw [if_neg c64] at H
                            have c64b0 : decide (1 ≤ (t287.length : Int)) = false := decide_eq_false c64
                            have c64b1 : decide (1 ≤ t287.length) = false := decide_eq_false (by omega)
                            clear c64
                            obtain rfl := Option.some.inj H
                            go_wp2_with (first | ((with_reducible refine gate_callee (f := 12) rfl ?_); refine goesL_ (some 116) rfl rfl Try.func12 (by kernel_rfl) rfl #[.string (a0 ++ (strOfNums y284))] rfl (by (try simp only [List.map_toArray, List.map_cons, List.map_nil]); first | done | rfl | (simp only [List.length_drop, List.length_take]; rfl)) ?_; (with_reducible refine (tokens_Name.calls kj33 (a0 ++ (strOfNums y284)) false _ A60.out).mono ?_); rintro e w68 ⟨rfl, hb⟩; refine ⟨_, rfl, ?_⟩; have n0_ := Aside0.mk (Kd.R_below (by (with_reducible repeat (first | apply Kd.R_alloc | apply Kd.R_drewN | apply Kd.R_drew)); exact HO_10.out) hb); have n1_ := Aside0.mk (below_step (by repeat (first | (with_reducible first | exact HB.out | apply below_alloc | apply pw_below_drewN | apply below_drew1) | exact HB.out)) hb); clear HO_10; clear HB; have HO_10 := n0_; have HB := n1_; clear n0_ n1_; (try clear hb); (try clear hb2); (try clear hk); (try clear hi); obtain ⟨Ao69, co69, eo69⟩ := Kd.R_slice HO_10.out; subst eo69))
                            go_ret
                            exact ⟨by first | rfl | (simp [errW_none, errW_some] <;> rfl) | (simp [*, errW_none, errW_some] <;> rfl), by repeat (first | (with_reducible first | exact HB.out | apply below_alloc | apply pw_below_drewN | apply below_drew1) | exact HB.out)⟩
                        · rw [if_neg c63] at H
                          have c63b0 : (t289 == 0) = false := beq_eq_false_iff_ne.mpr c63
                          have c63b1 : (t289 != 0) = true := bne_iff_ne.mpr c63
                          obtain rfl := Option.some.inj H
                          go_wp2_with (first | ((with_reducible refine gate_callee (f := 12) rfl ?_); refine goesL_ (some 116) rfl rfl Try.func12 (by kernel_rfl) rfl #[.string (a0 ++ (strOfNums y284))] rfl (by (try simp only [List.map_toArray, List.map_cons, List.map_nil]); first | done | rfl | (simp only [List.length_drop, List.length_take]; rfl)) ?_; (with_reducible refine (tokens_Name.calls kj33 (a0 ++ (strOfNums y284)) false _ A60.out).mono ?_); rintro e w70 ⟨rfl, hb⟩; refine ⟨_, rfl, ?_⟩; have n0_ := Aside0.mk (Kd.R_below (by (with_reducible repeat (first | apply Kd.R_alloc | apply Kd.R_drewN | apply Kd.R_drew)); exact HO_10.out) hb); have n1_ := Aside0.mk (below_step (by repeat (first | (with_reducible first | exact HB.out | apply below_alloc | apply pw_below_drewN | apply below_drew1) | exact HB.out)) hb); clear HO_10; clear HB; have HO_10 := n0_; have HB := n1_; clear n0_ n1_; (try clear hb); (try clear hb2); (try clear hk); (try clear hi)))
                          go_ret
                          exact ⟨by first | rfl | (simp [errW_none, errW_some] <;> rfl) | (simp [*, errW_none, errW_some] <;> rfl), by repeat (first | (with_reducible first | exact HB.out | apply below_alloc | apply pw_below_drewN | apply below_drew1) | exact HB.out)⟩
            · rw [if_neg c32] at H
              exact absurd H (by simp)

/-- THE ONE PURE STATEMENT of assayerlaw06_TokensWords: yours. -/
def assayerlaw06_TokensWords.Pure : Prop := ∀ (a0 : ByteArray) (a1 : Int), a0.size ≤ 140737488351232 → (Lit.int .u8 a1).wf = true → ∃ k, assayerlaw06_TokensWords.f k a0 a1 = some true
theorem assayerlaw06_TokensWords.walk (P : assayerlaw06_TokensWords.Pure) (a0 : ByteArray) (a1 : Int) (w : World) (w0 : a0.size ≤ 140737488351232) (w1 : (Lit.int .u8 a1).wf = true) :
    Calls Try.prog 9 #[.string a0, .int .u8 a1] w fun e w' => e = .returned (.bool true) ∧ Below w.heap.size w w' := by
  obtain ⟨k, h⟩ := P a0 a1 w0 w1
  refine (assayerlaw06_TokensWords.calls k a0 a1 true w h).mono ?_
  rintro e w' ⟨rfl, hd⟩
  exact ⟨rfl, hd⟩

/-! ### ledgers_between_int: function 28 -/
def ledgers_between_int.f (a0 : Int) (a1 : Int) (a2 : Int) : Option (Bool) := if a1 ≤ a0 then (some (decide (a0 ≤ a2))) else (some false)
set_option maxHeartbeats 8000000 in
set_option maxRecDepth 100000 in
theorem ledgers_between_int.calls (a0 : Int) (a1 : Int) (a2 : Int) (r : Bool) (w : World) (h : ledgers_between_int.f a0 a1 a2 = some r) :
    Calls Try.prog 28 #[.int .i64 a0, .int .i64 a1, .int .i64 a2] w fun e w' => e = .returned (.bool r) ∧ Drawn0 w w' := by
  have H : (if a1 ≤ a0 then (some (decide (a0 ≤ a2))) else (some false)) = some r := h
  clear h
  by_cases c4 : a1 ≤ a0
  · rw [if_pos c4] at H
    have c4b0 : decide (a1 ≤ a0) = true := decide_eq_true c4
    clear c4
    obtain rfl := Option.some.inj H
    go_enter Try.func28, Try.ntmps28
    go_wp2
    go_ret
    exact ⟨by first | rfl | (simp; done) | (simp [*]; done), by repeat (first | exact Drawn0.refl _ | apply Drawn0.step)⟩
  · rw [if_neg c4] at H
    have c4b0 : decide (a1 ≤ a0) = false := decide_eq_false c4
    clear c4
    obtain rfl := Option.some.inj H
    go_enter Try.func28, Try.ntmps28
    go_wp2
    go_ret
    exact ⟨by first | rfl | (simp; done) | (simp [*]; done), by repeat (first | exact Drawn0.refl _ | apply Drawn0.step)⟩

end Go.Proofs.Ytogmmdnfaoaaoaa.X
