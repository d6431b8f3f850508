/-
  The law 'LedgersMay', walked.
-/
import Derived.Test.YtgebfcdpbeaknaaX2
import Derived.Test.YtgebfcdpbeaknaaLedNew
import Derived.Test.YtgebfcdpbeaknaaLedTick
import Derived.Test.YtgebfcdpbeaknaaLedName
set_option linter.unusedVariables false
set_option linter.unusedSimpArgs false
namespace Go.Proofs.Ytgebfcdpbeaknaa.Led
open Go Go.RowKit Go.Proofs.Ytgebfcdpbeaknaa.X Go.Proofs.YtgebfcdpbeaknaaW.PrintWords Go.Proofs.YtgebfcdpbeaknaaW.PrintLast Go.MapRaw Go.MapKept
attribute [local go_sem] Oper.semAt_some

theorem C_one (w : World) (x : Ten) : Kd.C k23 (w.alloc (.cells #[.string x.f0, .string x.f1, .int .i64 x.f2] 23)) (some ⟨w.heap.size, 0, none⟩) 1 [x] := by
  refine ⟨rfl, by decide, fun _ => ⟨_, rfl, fun j p hj => ?_⟩⟩
  match j, hj with
  | 0, hj =>
    obtain rfl : x = p := by simpa using hj
    refine ⟨_, rfl, k23_mk _ _, fun i u hu => ?_⟩
    rw [Addr.add_lit]
    match i, hu with
    | 0, hu => simp at hu; subst hu; simp [go_sem]
    | 1, hu => simp at hu; subst hu; simp [go_sem]
    | 2, hu => simp at hu; subst hu; simp [go_sem]
    | i + 3, hu => simp at hu
theorem C_two (w : World) (x y : Ten) : Kd.C k23 (w.alloc (.cells #[.string x.f0, .string x.f1, .int .i64 x.f2, .string y.f0, .string y.f1, .int .i64 y.f2] 23)) (some ⟨w.heap.size, 0, none⟩) 2 [x, y] := by
  refine ⟨rfl, by decide, fun _ => ⟨_, rfl, fun j p hj => ?_⟩⟩
  match j, hj with
  | 0, hj =>
    obtain rfl : x = p := by simpa using hj
    refine ⟨_, rfl, k23_mk _ _, fun i u hu => ?_⟩
    rw [Addr.add_lit]
    match i, hu with
    | 0, hu => simp at hu; subst hu; simp [go_sem]
    | 1, hu => simp at hu; subst hu; simp [go_sem]
    | 2, hu => simp at hu; subst hu; simp [go_sem]
    | i + 3, hu => simp at hu
  | 1, hj =>
    obtain rfl : y = p := by simpa using hj
    refine ⟨_, rfl, k23_mk _ _, fun i u hu => ?_⟩
    rw [Addr.add_lit]
    match i, hu with
    | 0, hu => simp at hu; subst hu; simp [go_sem, k23, Kd.iso, Kd.pair, Kd.string, Kd.int, Kd.scalar]
    | 1, hu => simp at hu; subst hu; simp [go_sem, k23, Kd.iso, Kd.pair, Kd.string, Kd.int, Kd.scalar]
    | 2, hu => simp at hu; subst hu; simp [go_sem, k23, Kd.iso, Kd.pair, Kd.string, Kd.int, Kd.scalar]
    | i + 3, hu => simp at hu
def mayB (x : Ten) : Bool := Tg.nameB x.f0 && (decide (1 ≤ (x.f1.size : Int) ∧ (x.f1.size : Int) ≤ 64) && decide (1 ≤ x.f2 ∧ x.f2 ≤ 1073741824))
theorem mayT_is (x : Ten) (hs : x.f0.size ≤ 140737488355328) (seen : List ByteArray) (h : x.f0 ∉ seen) : mayT (x.f0.size + 11) seen x = some (mayB x) := by
  rw [mayT, if_neg h, Tg.named_is x.f0 hs]
  unfold mayB
  cases Tg.nameB x.f0
  · rfl
  · simp only [Option.bind_some, if_true, Bool.true_and]
    by_cases h2 : 1 ≤ (x.f1.size : Int) ∧ (x.f1.size : Int) ≤ 64
    · rw [if_pos h2, decide_eq_true h2]; rfl
    · rw [if_neg h2, decide_eq_false h2]; rfl
theorem may_one (x : Ten) (hs : x.f0.size ≤ 140737488355328) : mayL (x.f0.size + 11) [] [x] = some (mayB x) := by
  simp only [mayL, mayT_is x hs [] (by simp), Option.bind_some]
  cases mayB x <;> rfl
theorem may_same (x : Ten) (hs : x.f0.size ≤ 140737488355328) : mayL (x.f0.size + 11) [] [x, x] = some false := by
  simp only [mayL, mayT_is x hs [] (by simp), Option.bind_some]
  cases mayB x
  · rfl
  · simp only [if_true, List.nil_append]
    rw [mayT, if_pos (by simp)]
    simp

set_option maxHeartbeats 2000000 in
set_option maxRecDepth 100000 in
theorem law.great (x : Ten) (w : World) (h : x.f0.size > 1000 ∨ x.f1.size > 1000) :
    Calls Try.prog 3 #[.agg #[.string x.f0, .string x.f1, .int .i64 x.f2]] w fun e w' => e = .returned (.bool true) ∧ Below w.heap.size w w' := by
  by_cases h0 : x.f0.size > 1000
  · have hd0 : decide ((1000 : Int) < (x.f0.size : Int)) = true := decide_eq_true (by omega)
    have hd1 : decide (1000 < x.f0.size) = true := decide_eq_true (by omega)
    clear h h0
    go_enter Try.func3, Try.ntmps3
    go_wp2_with fail
    refine (assayerlaw13_alive.calls true _ rfl).mono ?_
    rintro e w1 ⟨rfl, hb1⟩
    have hx0 : w1.cell? ⟨w.heap.size, 0, none⟩ = some (.string x.f0) := (hb1.cell (p := ⟨w.heap.size, 0, none⟩) (by simp)).trans (by simp [go_sem])
    have hx1 : w1.cell? ⟨w.heap.size, 1, none⟩ = some (.string x.f1) := (hb1.cell (p := ⟨w.heap.size, 1, none⟩) (by simp)).trans (by simp [go_sem])
    have hx2 : w1.cell? ⟨w.heap.size, 2, none⟩ = some (.int .i64 x.f2) := (hb1.cell (p := ⟨w.heap.size, 2, none⟩) (by simp)).trans (by simp [go_sem])
    have hlt1 : w.heap.size < w1.heap.size := by have := hb1.size; simp at this; omega
    have HB1 := Aside0.mk (below_step (below_alloc (Below.refl _ w) _) hb1)
    clear hb1
    go_wp2_with fail
    refine (assayerlaw13_alive.calls true _ rfl).mono ?_
    rintro e w2 ⟨rfl, hb2⟩
    have HB2 := Aside0.mk (below_step HB1.out hb2)
    clear hb2 hx0 hx1 hx2 HB1
    go_wp2
    go_ret
    exact ⟨rfl, HB2.out⟩
  · have hd0 : decide ((1000 : Int) < (x.f0.size : Int)) = false := decide_eq_false (by omega)
    have hd1 : decide (1000 < x.f0.size) = false := decide_eq_false (by omega)
    have hk : x.f1.size > 1000 := h.resolve_left h0
    have hd2 : decide ((1000 : Int) < (x.f1.size : Int)) = true := decide_eq_true (by omega)
    have hd3 : decide (1000 < x.f1.size) = true := decide_eq_true (by omega)
    clear h h0 hk
    go_enter Try.func3, Try.ntmps3
    go_wp2_with fail
    refine (assayerlaw13_alive.calls true _ rfl).mono ?_
    rintro e w1 ⟨rfl, hb1⟩
    have hx0 : w1.cell? ⟨w.heap.size, 0, none⟩ = some (.string x.f0) := (hb1.cell (p := ⟨w.heap.size, 0, none⟩) (by simp)).trans (by simp [go_sem])
    have hx1 : w1.cell? ⟨w.heap.size, 1, none⟩ = some (.string x.f1) := (hb1.cell (p := ⟨w.heap.size, 1, none⟩) (by simp)).trans (by simp [go_sem])
    have hx2 : w1.cell? ⟨w.heap.size, 2, none⟩ = some (.int .i64 x.f2) := (hb1.cell (p := ⟨w.heap.size, 2, none⟩) (by simp)).trans (by simp [go_sem])
    have hlt1 : w.heap.size < w1.heap.size := by have := hb1.size; simp at this; omega
    have HB1 := Aside0.mk (below_step (below_alloc (Below.refl _ w) _) hb1)
    clear hb1
    go_wp2_with fail
    refine (assayerlaw13_alive.calls true _ rfl).mono ?_
    rintro e w2 ⟨rfl, hb2⟩
    have HB2 := Aside0.mk (below_step HB1.out hb2)
    clear hb2 hx0 hx1 hx2 HB1
    go_wp2
    go_ret
    exact ⟨rfl, HB2.out⟩

set_option maxHeartbeats 8000000 in
set_option maxRecDepth 100000 in
theorem law.small (x : Ten) (w : World) (h0 : x.f0.size ≤ 1000) (h1 : x.f1.size ≤ 1000) :
    Calls Try.prog 3 #[.agg #[.string x.f0, .string x.f1, .int .i64 x.f2]] w fun e w' => e = .returned (.bool true) ∧ Below w.heap.size w w' := by
  have hd0 : decide ((1000 : Int) < (x.f0.size : Int)) = false := decide_eq_false (by omega)
  have hd1 : decide (1000 < x.f0.size) = false := decide_eq_false (by omega)
  have hd2 : decide ((1000 : Int) < (x.f1.size : Int)) = false := decide_eq_false (by omega)
  have hd3 : decide (1000 < x.f1.size) = false := decide_eq_false (by omega)
  have HN := Aside0.mk (Tg.name_is x.f0 (x.f0.size + 11) (by omega))
  have H1 := Aside0.mk (may_one x (by omega))
  have H2 := Aside0.mk (may_same x (by omega))
  clear h0 h1
  cases hnb : Tg.nameB x.f0
  · have hm : mayB x = false := by unfold mayB; rw [hnb]; rfl
    rw [hnb] at HN
    rw [hm] at H1
    clear hnb hm
    go_enter Try.func3, Try.ntmps3
    go_wp2_with fail
    refine (assayerlaw13_alive.calls true _ rfl).mono ?_
    rintro e w1 ⟨rfl, hb1⟩
    have hx0 : w1.cell? ⟨w.heap.size, 0, none⟩ = some (.string x.f0) := (hb1.cell (p := ⟨w.heap.size, 0, none⟩) (by simp)).trans (by simp [go_sem])
    have hx1 : w1.cell? ⟨w.heap.size, 1, none⟩ = some (.string x.f1) := (hb1.cell (p := ⟨w.heap.size, 1, none⟩) (by simp)).trans (by simp [go_sem])
    have hx2 : w1.cell? ⟨w.heap.size, 2, none⟩ = some (.int .i64 x.f2) := (hb1.cell (p := ⟨w.heap.size, 2, none⟩) (by simp)).trans (by simp [go_sem])
    have hlt1 : w.heap.size < w1.heap.size := by have := hb1.size; simp at this; omega
    have HB1 := Aside0.mk (below_step (below_alloc (Below.refl _ w) _) hb1)
    clear hb1
    go_wp2_with fail
    refine (tokens_Name.calls (x.f0.size + 11) x.f0 false _ HN.out).mono ?_
    rintro e w2 ⟨rfl, hb2⟩
    have hx0' := (hb2.cell (p := ⟨w.heap.size, 0, none⟩) hlt1).trans hx0
    have hx1' := (hb2.cell (p := ⟨w.heap.size, 1, none⟩) hlt1).trans hx1
    have hx2' := (hb2.cell (p := ⟨w.heap.size, 2, none⟩) hlt1).trans hx2
    have hlt2 : w.heap.size < w2.heap.size := by have := hb2.size; omega
    have HB2 := Aside0.mk (below_step HB1.out hb2)
    clear hb2 hx0 hx1 hx2 HB1 hlt1
    go_wp2_with fail
    refine (New.calls (x.f0.size + 11) _ 1 [x] _ false (C_one w2 x) (Nat.le_refl _) H1.out).mono ?_
    rintro e w3 ⟨hb3, hN⟩
    unfold NewPost at hN
    rw [if_neg (by simp)] at hN
    subst hN
    have hx0 := (hb3.cell (p := ⟨w.heap.size, 0, none⟩) (by simp; omega)).trans (show (w2.alloc (.cells #[.string x.f0, .string x.f1, .int .i64 x.f2] 23)).cell? ⟨w.heap.size, 0, none⟩ = some (.string x.f0) from (World.cell?_alloc_past _ _ _ hlt2).trans hx0')
    have hx1 := (hb3.cell (p := ⟨w.heap.size, 1, none⟩) (by simp; omega)).trans (show (w2.alloc (.cells #[.string x.f0, .string x.f1, .int .i64 x.f2] 23)).cell? ⟨w.heap.size, 1, none⟩ = some (.string x.f1) from (World.cell?_alloc_past _ _ _ hlt2).trans hx1')
    have hx2 := (hb3.cell (p := ⟨w.heap.size, 2, none⟩) (by simp; omega)).trans (show (w2.alloc (.cells #[.string x.f0, .string x.f1, .int .i64 x.f2] 23)).cell? ⟨w.heap.size, 2, none⟩ = some (.int .i64 x.f2) from (World.cell?_alloc_past _ _ _ hlt2).trans hx2')
    have HB3 := Aside0.mk (below_step (below_alloc HB2.out _) hb3)
    clear hb3 hx0' hx1' hx2' HB2 hlt2
    go_wp2_with fail
    refine (New.calls (x.f0.size + 11) _ 2 [x, x] _ false (C_two w3 x x) (Nat.le_refl _) H2.out).mono ?_
    rintro e w4 ⟨hb4, hN⟩
    unfold NewPost at hN
    rw [if_neg (by simp)] at hN
    subst hN
    have HB4 := Aside0.mk (below_step (below_alloc HB3.out _) hb4)
    clear hb4 hx0 hx1 hx2 HB3
    go_wp2
    go_ret
    exact ⟨rfl, HB4.out⟩
  · rw [hnb] at HN
    by_cases s1 : 1 ≤ (x.f1.size : Int)
    · have s1p0 : decide ((x.f1.size : Int) ≥ 1) = true := decide_eq_true (by omega)
      have s1p1 : decide ((1 : Int) ≤ (x.f1.size : Int)) = true := decide_eq_true (by omega)
      have s1p2 : decide (1 ≤ x.f1.size) = true := decide_eq_true (by omega)
      by_cases s2 : (x.f1.size : Int) ≤ 64
      · have s2p0 : decide ((x.f1.size : Int) ≤ 64) = true := decide_eq_true (by omega)
        have s2p1 : decide (x.f1.size ≤ 64) = true := decide_eq_true (by omega)
        by_cases s3 : 1 ≤ x.f2
        · have s3p0 : decide (x.f2 ≥ 1) = true := decide_eq_true (by omega)
          have s3p1 : decide (1 ≤ x.f2) = true := decide_eq_true (by omega)
          by_cases s4 : x.f2 ≤ 1073741824
          · have s4p0 : decide (x.f2 ≤ 1073741824) = true := decide_eq_true (by omega)
            have hm : mayB x = true := by
              unfold mayB; rw [hnb]; simp; omega
            rw [hm] at H1
            clear hnb hm s1 s2 s3 s4
            go_enter Try.func3, Try.ntmps3
            go_wp2_with fail
            refine (assayerlaw13_alive.calls true _ rfl).mono ?_
            rintro e w1 ⟨rfl, hb1⟩
            have hx0 : w1.cell? ⟨w.heap.size, 0, none⟩ = some (.string x.f0) := (hb1.cell (p := ⟨w.heap.size, 0, none⟩) (by simp)).trans (by simp [go_sem])
            have hx1 : w1.cell? ⟨w.heap.size, 1, none⟩ = some (.string x.f1) := (hb1.cell (p := ⟨w.heap.size, 1, none⟩) (by simp)).trans (by simp [go_sem])
            have hx2 : w1.cell? ⟨w.heap.size, 2, none⟩ = some (.int .i64 x.f2) := (hb1.cell (p := ⟨w.heap.size, 2, none⟩) (by simp)).trans (by simp [go_sem])
            have hlt1 : w.heap.size < w1.heap.size := by have := hb1.size; simp at this; omega
            have HB1 := Aside0.mk (below_step (below_alloc (Below.refl _ w) _) hb1)
            clear hb1
            go_wp2_with fail
            refine (tokens_Name.calls (x.f0.size + 11) x.f0 true _ HN.out).mono ?_
            rintro e w2 ⟨rfl, hb2⟩
            have hx0' := (hb2.cell (p := ⟨w.heap.size, 0, none⟩) hlt1).trans hx0
            have hx1' := (hb2.cell (p := ⟨w.heap.size, 1, none⟩) hlt1).trans hx1
            have hx2' := (hb2.cell (p := ⟨w.heap.size, 2, none⟩) hlt1).trans hx2
            have hlt2 : w.heap.size < w2.heap.size := by have := hb2.size; omega
            have HB2 := Aside0.mk (below_step HB1.out hb2)
            clear hb2 hx0 hx1 hx2 HB1 hlt1
            go_wp2_with fail
            refine (New.calls (x.f0.size + 11) _ 1 [x] _ true (C_one w2 x) (Nat.le_refl _) H1.out).mono ?_
            rintro e w3 ⟨hb3, hN⟩
            unfold NewPost at hN
            rw [if_pos ⟨by simp, by simp, rfl⟩] at hN
            obtain ⟨pb, mb, bs, rfl, _⟩ := hN
            have hx0 := (hb3.cell (p := ⟨w.heap.size, 0, none⟩) (by simp; omega)).trans (show (w2.alloc (.cells #[.string x.f0, .string x.f1, .int .i64 x.f2] 23)).cell? ⟨w.heap.size, 0, none⟩ = some (.string x.f0) from (World.cell?_alloc_past _ _ _ hlt2).trans hx0')
            have hx1 := (hb3.cell (p := ⟨w.heap.size, 1, none⟩) (by simp; omega)).trans (show (w2.alloc (.cells #[.string x.f0, .string x.f1, .int .i64 x.f2] 23)).cell? ⟨w.heap.size, 1, none⟩ = some (.string x.f1) from (World.cell?_alloc_past _ _ _ hlt2).trans hx1')
            have hx2 := (hb3.cell (p := ⟨w.heap.size, 2, none⟩) (by simp; omega)).trans (show (w2.alloc (.cells #[.string x.f0, .string x.f1, .int .i64 x.f2] 23)).cell? ⟨w.heap.size, 2, none⟩ = some (.int .i64 x.f2) from (World.cell?_alloc_past _ _ _ hlt2).trans hx2')
            have HB3 := Aside0.mk (below_step (below_alloc HB2.out _) hb3)
            clear hb3 hx0' hx1' hx2' HB2 hlt2
            go_wp2_with fail
            refine (New.calls (x.f0.size + 11) _ 2 [x, x] _ false (C_two w3 x x) (Nat.le_refl _) H2.out).mono ?_
            rintro e w4 ⟨hb4, hN⟩
            unfold NewPost at hN
            rw [if_neg (by simp)] at hN
            subst hN
            have HB4 := Aside0.mk (below_step (below_alloc HB3.out _) hb4)
            clear hb4 hx0 hx1 hx2 HB3
            go_wp2
            go_ret
            exact ⟨rfl, HB4.out⟩
          · have hm : mayB x = false := by
              unfold mayB; rw [hnb]; simp; omega
            rw [hm] at H1
            have s4n0 : decide (x.f2 ≤ 1073741824) = false := decide_eq_false (by omega)
            clear hnb hm s1 s2 s3 s4
            go_enter Try.func3, Try.ntmps3
            go_wp2_with fail
            refine (assayerlaw13_alive.calls true _ rfl).mono ?_
            rintro e w1 ⟨rfl, hb1⟩
            have hx0 : w1.cell? ⟨w.heap.size, 0, none⟩ = some (.string x.f0) := (hb1.cell (p := ⟨w.heap.size, 0, none⟩) (by simp)).trans (by simp [go_sem])
            have hx1 : w1.cell? ⟨w.heap.size, 1, none⟩ = some (.string x.f1) := (hb1.cell (p := ⟨w.heap.size, 1, none⟩) (by simp)).trans (by simp [go_sem])
            have hx2 : w1.cell? ⟨w.heap.size, 2, none⟩ = some (.int .i64 x.f2) := (hb1.cell (p := ⟨w.heap.size, 2, none⟩) (by simp)).trans (by simp [go_sem])
            have hlt1 : w.heap.size < w1.heap.size := by have := hb1.size; simp at this; omega
            have HB1 := Aside0.mk (below_step (below_alloc (Below.refl _ w) _) hb1)
            clear hb1
            go_wp2_with fail
            refine (tokens_Name.calls (x.f0.size + 11) x.f0 true _ HN.out).mono ?_
            rintro e w2 ⟨rfl, hb2⟩
            have hx0' := (hb2.cell (p := ⟨w.heap.size, 0, none⟩) hlt1).trans hx0
            have hx1' := (hb2.cell (p := ⟨w.heap.size, 1, none⟩) hlt1).trans hx1
            have hx2' := (hb2.cell (p := ⟨w.heap.size, 2, none⟩) hlt1).trans hx2
            have hlt2 : w.heap.size < w2.heap.size := by have := hb2.size; omega
            have HB2 := Aside0.mk (below_step HB1.out hb2)
            clear hb2 hx0 hx1 hx2 HB1 hlt1
            go_wp2_with fail
            refine (New.calls (x.f0.size + 11) _ 1 [x] _ false (C_one w2 x) (Nat.le_refl _) H1.out).mono ?_
            rintro e w3 ⟨hb3, hN⟩
            unfold NewPost at hN
            rw [if_neg (by simp)] at hN
            subst hN
            have hx0 := (hb3.cell (p := ⟨w.heap.size, 0, none⟩) (by simp; omega)).trans (show (w2.alloc (.cells #[.string x.f0, .string x.f1, .int .i64 x.f2] 23)).cell? ⟨w.heap.size, 0, none⟩ = some (.string x.f0) from (World.cell?_alloc_past _ _ _ hlt2).trans hx0')
            have hx1 := (hb3.cell (p := ⟨w.heap.size, 1, none⟩) (by simp; omega)).trans (show (w2.alloc (.cells #[.string x.f0, .string x.f1, .int .i64 x.f2] 23)).cell? ⟨w.heap.size, 1, none⟩ = some (.string x.f1) from (World.cell?_alloc_past _ _ _ hlt2).trans hx1')
            have hx2 := (hb3.cell (p := ⟨w.heap.size, 2, none⟩) (by simp; omega)).trans (show (w2.alloc (.cells #[.string x.f0, .string x.f1, .int .i64 x.f2] 23)).cell? ⟨w.heap.size, 2, none⟩ = some (.int .i64 x.f2) from (World.cell?_alloc_past _ _ _ hlt2).trans hx2')
            have HB3 := Aside0.mk (below_step (below_alloc HB2.out _) hb3)
            clear hb3 hx0' hx1' hx2' HB2 hlt2
            go_wp2_with fail
            refine (New.calls (x.f0.size + 11) _ 2 [x, x] _ false (C_two w3 x x) (Nat.le_refl _) H2.out).mono ?_
            rintro e w4 ⟨hb4, hN⟩
            unfold NewPost at hN
            rw [if_neg (by simp)] at hN
            subst hN
            have HB4 := Aside0.mk (below_step (below_alloc HB3.out _) hb4)
            clear hb4 hx0 hx1 hx2 HB3
            go_wp2
            go_ret
            exact ⟨rfl, HB4.out⟩
        · have hm : mayB x = false := by
            unfold mayB; rw [hnb]; simp; omega
          rw [hm] at H1
          have s3n0 : decide (x.f2 ≥ 1) = false := decide_eq_false (by omega)
          have s3n1 : decide (1 ≤ x.f2) = false := decide_eq_false (by omega)
          clear hnb hm s1 s2 s3
          go_enter Try.func3, Try.ntmps3
          go_wp2_with fail
          refine (assayerlaw13_alive.calls true _ rfl).mono ?_
          rintro e w1 ⟨rfl, hb1⟩
          have hx0 : w1.cell? ⟨w.heap.size, 0, none⟩ = some (.string x.f0) := (hb1.cell (p := ⟨w.heap.size, 0, none⟩) (by simp)).trans (by simp [go_sem])
          have hx1 : w1.cell? ⟨w.heap.size, 1, none⟩ = some (.string x.f1) := (hb1.cell (p := ⟨w.heap.size, 1, none⟩) (by simp)).trans (by simp [go_sem])
          have hx2 : w1.cell? ⟨w.heap.size, 2, none⟩ = some (.int .i64 x.f2) := (hb1.cell (p := ⟨w.heap.size, 2, none⟩) (by simp)).trans (by simp [go_sem])
          have hlt1 : w.heap.size < w1.heap.size := by have := hb1.size; simp at this; omega
          have HB1 := Aside0.mk (below_step (below_alloc (Below.refl _ w) _) hb1)
          clear hb1
          go_wp2_with fail
          refine (tokens_Name.calls (x.f0.size + 11) x.f0 true _ HN.out).mono ?_
          rintro e w2 ⟨rfl, hb2⟩
          have hx0' := (hb2.cell (p := ⟨w.heap.size, 0, none⟩) hlt1).trans hx0
          have hx1' := (hb2.cell (p := ⟨w.heap.size, 1, none⟩) hlt1).trans hx1
          have hx2' := (hb2.cell (p := ⟨w.heap.size, 2, none⟩) hlt1).trans hx2
          have hlt2 : w.heap.size < w2.heap.size := by have := hb2.size; omega
          have HB2 := Aside0.mk (below_step HB1.out hb2)
          clear hb2 hx0 hx1 hx2 HB1 hlt1
          go_wp2_with fail
          refine (New.calls (x.f0.size + 11) _ 1 [x] _ false (C_one w2 x) (Nat.le_refl _) H1.out).mono ?_
          rintro e w3 ⟨hb3, hN⟩
          unfold NewPost at hN
          rw [if_neg (by simp)] at hN
          subst hN
          have hx0 := (hb3.cell (p := ⟨w.heap.size, 0, none⟩) (by simp; omega)).trans (show (w2.alloc (.cells #[.string x.f0, .string x.f1, .int .i64 x.f2] 23)).cell? ⟨w.heap.size, 0, none⟩ = some (.string x.f0) from (World.cell?_alloc_past _ _ _ hlt2).trans hx0')
          have hx1 := (hb3.cell (p := ⟨w.heap.size, 1, none⟩) (by simp; omega)).trans (show (w2.alloc (.cells #[.string x.f0, .string x.f1, .int .i64 x.f2] 23)).cell? ⟨w.heap.size, 1, none⟩ = some (.string x.f1) from (World.cell?_alloc_past _ _ _ hlt2).trans hx1')
          have hx2 := (hb3.cell (p := ⟨w.heap.size, 2, none⟩) (by simp; omega)).trans (show (w2.alloc (.cells #[.string x.f0, .string x.f1, .int .i64 x.f2] 23)).cell? ⟨w.heap.size, 2, none⟩ = some (.int .i64 x.f2) from (World.cell?_alloc_past _ _ _ hlt2).trans hx2')
          have HB3 := Aside0.mk (below_step (below_alloc HB2.out _) hb3)
          clear hb3 hx0' hx1' hx2' HB2 hlt2
          go_wp2_with fail
          refine (New.calls (x.f0.size + 11) _ 2 [x, x] _ false (C_two w3 x x) (Nat.le_refl _) H2.out).mono ?_
          rintro e w4 ⟨hb4, hN⟩
          unfold NewPost at hN
          rw [if_neg (by simp)] at hN
          subst hN
          have HB4 := Aside0.mk (below_step (below_alloc HB3.out _) hb4)
          clear hb4 hx0 hx1 hx2 HB3
          go_wp2
          go_ret
          exact ⟨rfl, HB4.out⟩
      · have hm : mayB x = false := by
          unfold mayB; rw [hnb]; simp; omega
        rw [hm] at H1
        have s2n0 : decide ((x.f1.size : Int) ≤ 64) = false := decide_eq_false (by omega)
        have s2n1 : decide (x.f1.size ≤ 64) = false := decide_eq_false (by omega)
        clear hnb hm s1 s2
        go_enter Try.func3, Try.ntmps3
        go_wp2_with fail
        refine (assayerlaw13_alive.calls true _ rfl).mono ?_
        rintro e w1 ⟨rfl, hb1⟩
        have hx0 : w1.cell? ⟨w.heap.size, 0, none⟩ = some (.string x.f0) := (hb1.cell (p := ⟨w.heap.size, 0, none⟩) (by simp)).trans (by simp [go_sem])
        have hx1 : w1.cell? ⟨w.heap.size, 1, none⟩ = some (.string x.f1) := (hb1.cell (p := ⟨w.heap.size, 1, none⟩) (by simp)).trans (by simp [go_sem])
        have hx2 : w1.cell? ⟨w.heap.size, 2, none⟩ = some (.int .i64 x.f2) := (hb1.cell (p := ⟨w.heap.size, 2, none⟩) (by simp)).trans (by simp [go_sem])
        have hlt1 : w.heap.size < w1.heap.size := by have := hb1.size; simp at this; omega
        have HB1 := Aside0.mk (below_step (below_alloc (Below.refl _ w) _) hb1)
        clear hb1
        go_wp2_with fail
        refine (tokens_Name.calls (x.f0.size + 11) x.f0 true _ HN.out).mono ?_
        rintro e w2 ⟨rfl, hb2⟩
        have hx0' := (hb2.cell (p := ⟨w.heap.size, 0, none⟩) hlt1).trans hx0
        have hx1' := (hb2.cell (p := ⟨w.heap.size, 1, none⟩) hlt1).trans hx1
        have hx2' := (hb2.cell (p := ⟨w.heap.size, 2, none⟩) hlt1).trans hx2
        have hlt2 : w.heap.size < w2.heap.size := by have := hb2.size; omega
        have HB2 := Aside0.mk (below_step HB1.out hb2)
        clear hb2 hx0 hx1 hx2 HB1 hlt1
        go_wp2_with fail
        refine (New.calls (x.f0.size + 11) _ 1 [x] _ false (C_one w2 x) (Nat.le_refl _) H1.out).mono ?_
        rintro e w3 ⟨hb3, hN⟩
        unfold NewPost at hN
        rw [if_neg (by simp)] at hN
        subst hN
        have hx0 := (hb3.cell (p := ⟨w.heap.size, 0, none⟩) (by simp; omega)).trans (show (w2.alloc (.cells #[.string x.f0, .string x.f1, .int .i64 x.f2] 23)).cell? ⟨w.heap.size, 0, none⟩ = some (.string x.f0) from (World.cell?_alloc_past _ _ _ hlt2).trans hx0')
        have hx1 := (hb3.cell (p := ⟨w.heap.size, 1, none⟩) (by simp; omega)).trans (show (w2.alloc (.cells #[.string x.f0, .string x.f1, .int .i64 x.f2] 23)).cell? ⟨w.heap.size, 1, none⟩ = some (.string x.f1) from (World.cell?_alloc_past _ _ _ hlt2).trans hx1')
        have hx2 := (hb3.cell (p := ⟨w.heap.size, 2, none⟩) (by simp; omega)).trans (show (w2.alloc (.cells #[.string x.f0, .string x.f1, .int .i64 x.f2] 23)).cell? ⟨w.heap.size, 2, none⟩ = some (.int .i64 x.f2) from (World.cell?_alloc_past _ _ _ hlt2).trans hx2')
        have HB3 := Aside0.mk (below_step (below_alloc HB2.out _) hb3)
        clear hb3 hx0' hx1' hx2' HB2 hlt2
        go_wp2_with fail
        refine (New.calls (x.f0.size + 11) _ 2 [x, x] _ false (C_two w3 x x) (Nat.le_refl _) H2.out).mono ?_
        rintro e w4 ⟨hb4, hN⟩
        unfold NewPost at hN
        rw [if_neg (by simp)] at hN
        subst hN
        have HB4 := Aside0.mk (below_step (below_alloc HB3.out _) hb4)
        clear hb4 hx0 hx1 hx2 HB3
        go_wp2
        go_ret
        exact ⟨rfl, HB4.out⟩
    · have hm : mayB x = false := by
        unfold mayB; rw [hnb]; simp; omega
      rw [hm] at H1
      have s1n0 : decide ((x.f1.size : Int) ≥ 1) = false := decide_eq_false (by omega)
      have s1n1 : decide ((1 : Int) ≤ (x.f1.size : Int)) = false := decide_eq_false (by omega)
      have s1n2 : decide (1 ≤ x.f1.size) = false := decide_eq_false (by omega)
      clear hnb hm s1
      go_enter Try.func3, Try.ntmps3
      go_wp2_with fail
      refine (assayerlaw13_alive.calls true _ rfl).mono ?_
      rintro e w1 ⟨rfl, hb1⟩
      have hx0 : w1.cell? ⟨w.heap.size, 0, none⟩ = some (.string x.f0) := (hb1.cell (p := ⟨w.heap.size, 0, none⟩) (by simp)).trans (by simp [go_sem])
      have hx1 : w1.cell? ⟨w.heap.size, 1, none⟩ = some (.string x.f1) := (hb1.cell (p := ⟨w.heap.size, 1, none⟩) (by simp)).trans (by simp [go_sem])
      have hx2 : w1.cell? ⟨w.heap.size, 2, none⟩ = some (.int .i64 x.f2) := (hb1.cell (p := ⟨w.heap.size, 2, none⟩) (by simp)).trans (by simp [go_sem])
      have hlt1 : w.heap.size < w1.heap.size := by have := hb1.size; simp at this; omega
      have HB1 := Aside0.mk (below_step (below_alloc (Below.refl _ w) _) hb1)
      clear hb1
      go_wp2_with fail
      refine (tokens_Name.calls (x.f0.size + 11) x.f0 true _ HN.out).mono ?_
      rintro e w2 ⟨rfl, hb2⟩
      have hx0' := (hb2.cell (p := ⟨w.heap.size, 0, none⟩) hlt1).trans hx0
      have hx1' := (hb2.cell (p := ⟨w.heap.size, 1, none⟩) hlt1).trans hx1
      have hx2' := (hb2.cell (p := ⟨w.heap.size, 2, none⟩) hlt1).trans hx2
      have hlt2 : w.heap.size < w2.heap.size := by have := hb2.size; omega
      have HB2 := Aside0.mk (below_step HB1.out hb2)
      clear hb2 hx0 hx1 hx2 HB1 hlt1
      go_wp2_with fail
      refine (New.calls (x.f0.size + 11) _ 1 [x] _ false (C_one w2 x) (Nat.le_refl _) H1.out).mono ?_
      rintro e w3 ⟨hb3, hN⟩
      unfold NewPost at hN
      rw [if_neg (by simp)] at hN
      subst hN
      have hx0 := (hb3.cell (p := ⟨w.heap.size, 0, none⟩) (by simp; omega)).trans (show (w2.alloc (.cells #[.string x.f0, .string x.f1, .int .i64 x.f2] 23)).cell? ⟨w.heap.size, 0, none⟩ = some (.string x.f0) from (World.cell?_alloc_past _ _ _ hlt2).trans hx0')
      have hx1 := (hb3.cell (p := ⟨w.heap.size, 1, none⟩) (by simp; omega)).trans (show (w2.alloc (.cells #[.string x.f0, .string x.f1, .int .i64 x.f2] 23)).cell? ⟨w.heap.size, 1, none⟩ = some (.string x.f1) from (World.cell?_alloc_past _ _ _ hlt2).trans hx1')
      have hx2 := (hb3.cell (p := ⟨w.heap.size, 2, none⟩) (by simp; omega)).trans (show (w2.alloc (.cells #[.string x.f0, .string x.f1, .int .i64 x.f2] 23)).cell? ⟨w.heap.size, 2, none⟩ = some (.int .i64 x.f2) from (World.cell?_alloc_past _ _ _ hlt2).trans hx2')
      have HB3 := Aside0.mk (below_step (below_alloc HB2.out _) hb3)
      clear hb3 hx0' hx1' hx2' HB2 hlt2
      go_wp2_with fail
      refine (New.calls (x.f0.size + 11) _ 2 [x, x] _ false (C_two w3 x x) (Nat.le_refl _) H2.out).mono ?_
      rintro e w4 ⟨hb4, hN⟩
      unfold NewPost at hN
      rw [if_neg (by simp)] at hN
      subst hN
      have HB4 := Aside0.mk (below_step (below_alloc HB3.out _) hb4)
      clear hb4 hx0 hx1 hx2 HB3
      go_wp2
      go_ret
      exact ⟨rfl, HB4.out⟩
end Go.Proofs.Ytgebfcdpbeaknaa.Led
