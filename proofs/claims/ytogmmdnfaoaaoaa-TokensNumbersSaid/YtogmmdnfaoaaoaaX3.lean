-- Laid by wip/gen.py (a program of this session) over the kit's print.py, with hand-proved contracts among its functions. Not trusted: Lean checks it.
import Derived.Test.YtogmmdnfaoaaoaaX0
import Derived.Test.YtogmmdnfaoaaoaaX1
import Derived.Test.YtogmmdnfaoaaoaaX2
namespace Go.Proofs.Ytogmmdnfaoaaoaa.X
open Go.RowKit Go.Proofs.YtogmmdnfaoaaoaaW.PrintWords Go.Proofs.YtogmmdnfaoaaoaaW.PrintLast Go.Proofs.YtogmmdnfaoaaoaaW.PrintMore
attribute [local go_sem] max2_int min2_int max_two min_two max_three min_three max_four min_four   -- for this text's walks alone
set_option linter.unusedVariables false
set_option linter.unusedSimpArgs false

attribute [local go_sem high] eqA37
/-! ### tokens_Read: function 17 -/
-- by hand: tokens_Read.tpl
def tokens_Read.pick (k : Nat) (s : ByteArray) : Option (Int × Int) :=
  (tokens_word.f s).bind fun n0 => if n0 > 0 then some (1, n0) else
  (tokens_number.f s).bind fun n1 => if n1 > 0 then some (2, n1) else
  (tokens_sign.f k s).bind fun n2 => if n2 > 0 then some (3, n2) else some (0, 0)
def tokens_Read.l0 : Nat → ByteArray → List S37 → Int → Option (List S37 × Int × Int)
  | 0, _, _, _ => none
  | k + 1, a0, l, p => if p < (a0.size : Int) then (if 0 ≤ p then
      ((tokens_run.f (a0.extract p.toNat a0.size) ⟨#[32, 9, 10, 13]⟩).bind fun n => if n > 0 then tokens_Read.l0 k a0 l (wrap64 (p + n)) else
       if 0 < ((a0.extract p.toNat a0.size).size : Int) then (if bt (a0.extract p.toNat a0.size) 0 = 35 then ((strings_Cut.f (a0.extract p.toNat a0.size) ⟨#[10]⟩).bind fun c => tokens_Read.l0 k a0 l (wrap64 (p + (c.1.size : Int))))
       else ((tokens_Read.pick k (a0.extract p.toNat a0.size)).bind fun q => if q.1 > 0 then (if 0 ≤ q.2 then (if q.2 ≤ ((a0.extract p.toNat a0.size).size : Int) then (if l.length < 4398046511104 then tokens_Read.l0 k a0 (l ++ [⟨q.1, (a0.extract p.toNat a0.size).extract 0 q.2.toNat, p⟩]) (wrap64 (p + q.2)) else none) else none) else none) else some ([], p, 4))) else none) else none)
    else some (l, 0, 0)
def tokens_Read.f (k : Nat) (a0 : ByteArray) : Option (List (S37) × Int × Int) := if (a0.size : Int) > 65536 then some ([], 0, 3) else tokens_Read.l0 k a0 [] 0
theorem tokens_Read.pick_mono (k : Nat) (s : ByteArray) : LeO (tokens_Read.pick k s) (tokens_Read.pick (k + 1) s) := by
  unfold tokens_Read.pick
  repeat' first
  | (with_reducible exact tokens_sign.mono _ _)
  | (with_reducible exact LeO.refl _)
  | (with_reducible refine LeO.ite ?_ ?_)
  | (with_reducible refine LeO.bind ?_ (fun _ => ?_))
theorem tokens_Read.mono_l : ∀ k, ∀ y0 y1 y2, LeO (tokens_Read.l0 k y0 y1 y2) (tokens_Read.l0 (k + 1) y0 y1 y2)
  | 0 => fun _ _ _ r h => by simp [tokens_Read.l0] at h
  | k + 1 => by
    have ih0 := tokens_Read.mono_l k
    intro y0 y1 y2
    unfold tokens_Read.l0
    repeat' first
    | (with_reducible exact ih0 _ _ _)
    | (with_reducible exact tokens_Read.pick_mono _ _)
    | (with_reducible exact LeO.refl _)
    | (with_reducible refine LeO.ite ?_ ?_)
    | (with_reducible refine LeO.bind ?_ (fun _ => ?_))
theorem tokens_Read.mono : ∀ a0 k, LeO (tokens_Read.f k a0) (tokens_Read.f (k + 1) a0) := by
  intro a0 k
  unfold tokens_Read.f
  repeat' first
  | (with_reducible exact tokens_Read.mono_l k _ _ _)
  | (with_reducible exact LeO.refl _)
  | (with_reducible refine LeO.ite ?_ ?_)
def tokens_Read.cells : Array Value := #[.int .u8 1, .func (.func 19) #[] #[], .int .u8 2, .func (.func 30) #[] #[], .int .u8 3, .func (.func 31) #[] #[]]
set_option maxHeartbeats 4000000 in
set_option maxRecDepth 100000 in
theorem tokens_Read.calls (k : Nat) (a0 : ByteArray) (r1 : List (S37)) (r2 : Int) (r3 : Int) (w : World) (h : tokens_Read.f k a0 = some (r1, r2, r3)) :
    Calls Try.prog 17 #[.string a0] w fun e w' => ∃ v0_ : Value, e = .returned (.tuple #[v0_, .int .i64 r2, .int .i64 r3]) ∧ Kd.R k37 37 w' w.heap.size (fun _ => True) v0_ r1 ∧ Below w.heap.size w w' := by
  unfold tokens_Read.f at h
  by_cases hs : (a0.size : Int) > 65536
  · rw [if_pos hs] at h
    simp only [Option.some.injEq, Prod.mk.injEq] at h
    obtain ⟨rfl, rfl, rfl⟩ := h
    have c2b0 : decide (65536 < (a0.size : Int)) = true := decide_eq_true hs
    have c2b1 : decide (65536 < a0.size) = true := decide_eq_true (by omega)
    clear hs
    go_enter Try.func17, Try.ntmps17
    go_wp2
    go_step3
    go_wp2
    rw [Exit.noGoto_ret]
    go_ret3
    exact ⟨_, rfl, Kd.R_nil _ _ _ _ _, Below.refl _ _⟩
  · rw [if_neg hs] at h
    have c2b0 : decide (65536 < (a0.size : Int)) = false := decide_eq_false hs
    have c2b1 : decide (65536 < a0.size) = false := decide_eq_false (by omega)
    have HS := Aside0.mk (show a0.size ≤ 65536 by omega)
    clear hs
    have H := Aside0.mk h
    clear h
    go_enter Try.func17, Try.ntmps17
    have hu67 := Try.underlying67
    have hu68 := Try.underlying68
    go_wp2
    go_step3
    go_wp2
    go_step3
    go_wp2
    go_loopg [2, 3] k (fun kq v2 v3 w' => ∃ (x2 : List S37) (x3 : Int), v3 = .int .i64 x3 ∧ Aside0 (tokens_Read.l0 kq a0 x2 x3 = some (r1, r2, r3)) ∧ Aside0 (kq ≤ k) ∧ Aside0 (Kd.R k37 37 w' w.heap.size (fun b => b ≠ w.heap.size) v2 x2) ∧ Aside0 (w'.heap[w.heap.size]? = some (.cells tokens_Read.cells 68 (0, 0))) ∧ Aside0 (Below w.heap.size w w'))
    case atStart => exact ⟨[], 0, rfl, H, ⟨Nat.le_refl _⟩, ⟨Kd.R_nil _ _ _ _ _⟩, ⟨heap_alloc_new _ _⟩, ⟨(Below.refl _ _).alloc (Nat.le_refl _) _⟩⟩
    case round =>
      clear H c2b0 c2b1
      obtain ⟨x2, x3, rfl, HA, HK, HO, HC, HB⟩ := hrel
      cases gk with
      | zero => exact absurd HA.out (by simp [tokens_Read.l0])
      | succ k1 =>
        have H := HA.out
        clear HA
        simp only [tokens_Read.l0] at H
        by_cases c3 : x3 < (a0.size : Int)
        · rw [if_pos c3] at H
          have c3b0 : decide (x3 < (a0.size : Int)) = true := decide_eq_true c3
          by_cases c4 : 0 ≤ x3
          · rw [if_pos c4] at H
            have c4b0 := eq_true c4
            have c4b1 := eq_true (show x3 ≤ (a0.size : Int) by omega)
            replace H := Option.bind_eq_some_iff.mp H
            obtain ⟨n, A5, H⟩ := H
            have A5 := Aside0.mk A5
            have hlt : w.heap.size < wr.heap.size := (Array.getElem?_eq_some_iff.1 HC.out).1
            have HL := Aside0.mk hlt
            clear hlt c3 c4
            obtain ⟨rest, hrest⟩ : ∃ rest, rest = a0.extract x3.toNat a0.size := ⟨_, rfl⟩
            have HR := Aside0.mk hrest
            rw [← hrest] at H A5
            clear hrest
            go_wp2_with fail
            rw [← HR.out]
            refine (tokens_run.calls _ _ _ _ A5.out).mono ?_
            rintro e w5 ⟨rfl, hb5⟩
            have HO5 := Aside0.mk (Kd.R_below HO.out hb5)
            have HC5 := Aside0.mk ((hb5.block _ HL.out).trans HC.out)
            have HB5 := Aside0.mk (below_step HB.out hb5)
            clear HO HC HB A5 hb5
            by_cases c6 : n > 0
            · rw [if_pos c6] at H
              have c6b0 : decide (0 < n) = true := decide_eq_true c6
              have H := Aside0.mk H
              go_wp2
              go_roundg k1
              case measure => have := HK.out; omega
              case rel => exact ⟨_, _, rfl, H, ⟨by have := HK.out; omega⟩, HO5, HC5, HB5⟩
            · rw [if_neg c6] at H
              have c6b0 : decide (0 < n) = false := decide_eq_false c6
              clear c6
              by_cases c7 : 0 < (rest.size : Int)
              · rw [if_pos c7] at H
                have c7b0 := eq_true c7
                have c7b1 := decide_eq_true c7
                have c7b2 : decide (0 < rest.size) = true := decide_eq_true (by omega)
                clear c7
                by_cases c8 : bt rest 0 = 35
                · rw [if_pos c8] at H
                  have c8b0 : (bt rest 0 == 35) = true := beq_iff_eq.mpr c8
                  clear c8
                  have hb0 := Aside0.mk (bt_at rest 0)
                  replace H := Option.bind_eq_some_iff.mp H
                  obtain ⟨⟨s1, s2, b3⟩, A9, H⟩ := H
                  have A9 := Aside0.mk A9
                  have H := Aside0.mk (show tokens_Read.l0 k1 a0 x2 (wrap64 (x3 + (s1.size : Int))) = some (r1, r2, r3) from H)
                  have hx0 : ∀ h : 0 < rest.size, ((rest[0]'h).toNat : Int) = bt rest 0 := bt_at rest 0
                  have c7n : 0 < rest.size := of_decide_eq_true c7b2
                  go_wp2_with fail
                  refine (strings_Cut.calls _ _ _ _ _ _ A9.out).mono ?_
                  rintro e w6 ⟨rfl, ⟨m, rfl⟩⟩
                  have HO6 := Aside0.mk (Kd.R_drewN HO5.out m)
                  have HC6 := Aside0.mk (show (w5.drewN m).heap[w.heap.size]? = _ from HC5.out)
                  have HB6 := Aside0.mk (pw_below_drewN HB5.out m)
                  clear HO5 HC5 HB5 A9
                  go_wp2
                  go_roundg k1
                  case measure => have := HK.out; omega
                  case rel => exact ⟨_, _, rfl, H, ⟨by have := HK.out; omega⟩, HO6, HC6, HB6⟩
                · rw [if_neg c8] at H
                  have c8b0 : (bt rest 0 == 35) = false := beq_eq_false_iff_ne.mpr c8
                  clear c8
                  have hx0 : ∀ h : 0 < rest.size, ((rest[0]'h).toNat : Int) = bt rest 0 := bt_at rest 0
                  have c7n : 0 < rest.size := of_decide_eq_true c7b2
                  replace H := Option.bind_eq_some_iff.mp H
                  obtain ⟨⟨q1, q2⟩, A9, H⟩ := H
                  have hc0 : w5.cell? ⟨w.heap.size, 0, none⟩ = some (.int .u8 1) := blk_cell HC5.out 0
                  have hc1 : w5.cell? ⟨w.heap.size, 1, none⟩ = some (.func (.func 19) #[] #[]) := blk_cell HC5.out 1
                  have hc2 : w5.cell? ⟨w.heap.size, 2, none⟩ = some (.int .u8 2) := blk_cell HC5.out 2
                  have hc3 : w5.cell? ⟨w.heap.size, 3, none⟩ = some (.func (.func 30) #[] #[]) := blk_cell HC5.out 3
                  have hc4 : w5.cell? ⟨w.heap.size, 4, none⟩ = some (.int .u8 3) := blk_cell HC5.out 4
                  have hc5 : w5.cell? ⟨w.heap.size, 5, none⟩ = some (.func (.func 31) #[] #[]) := blk_cell HC5.out 5
                  have i0 : ∀ w, (Instr.index 68 (.agg tokens_Read.cells) (.int .i64 0)).run Try.prog w = .ok (.agg #[.int .u8 1, .func (.func 19) #[] #[]]) w := fun _ => by kernel_rfl
                  have i1 : ∀ w, (Instr.index 68 (.agg tokens_Read.cells) (.int .i64 1)).run Try.prog w = .ok (.agg #[.int .u8 2, .func (.func 30) #[] #[]]) w := fun _ => by kernel_rfl
                  have i2 : ∀ w, (Instr.index 68 (.agg tokens_Read.cells) (.int .i64 2)).run Try.prog w = .ok (.agg #[.int .u8 3, .func (.func 31) #[] #[]]) w := fun _ => by kernel_rfl
                  unfold tokens_Read.cells at i0 i1 i2
                  unfold tokens_Read.pick at A9
                  go_wp2_with fail
                  refine wp_loop_rounds 4 ?_
                  replace A9 := Option.bind_eq_some_iff.mp A9
                  obtain ⟨n0, B0, A9⟩ := A9
                  have B0 := Aside0.mk B0
                  rw [rounds_succ]
                  go_wp2_with fail
                  refine (tokens_word.calls rest n0 _ B0.out).mono ?_
                  rintro e w60 ⟨rfl, hb⟩
                  have hk0 : w60.cell? ⟨w5.heap.size, 0, none⟩ = some (.int .u8 1) := (hb.cell (p := ⟨w5.heap.size, 0, none⟩) (by simp)).trans (blk_cell (heap_alloc_new _ _) 0)
                  have HO60 := Aside0.mk (Kd.R_below (Kd.R_alloc HO5.out _) hb)
                  have HB60 := Aside0.mk (below_step (below_alloc HB5.out _) hb)
                  have HC60 := Aside0.mk ((hb.block w.heap.size (by have := HB5.out.size; have := (Array.getElem?_eq_some_iff.1 HC5.out).1; simp; omega)).trans ((below_alloc (Below.refl _ _) _).block w.heap.size (Array.getElem?_eq_some_iff.1 HC5.out).1 |>.trans HC5.out))
                  clear HO5 HB5 HC5 hb B0
                  by_cases d0 : n0 > 0
                  · rw [if_pos d0] at A9
                    have d0b0 : decide (0 < n0) = true := decide_eq_true d0
                    obtain ⟨rfl, rfl⟩ : 1 = q1 ∧ n0 = q2 := by simpa using A9
                    clear A9 hc0 hc1 hc2 hc3 hc4 hc5
                    rw [if_pos (by decide)] at H
                    by_cases e1 : 0 ≤ n0
                    rotate_left
                    · rw [if_neg e1] at H; exact absurd H (by simp)
                    rw [if_pos e1] at H
                    by_cases e2 : n0 ≤ (rest.size : Int)
                    rotate_left
                    · rw [if_neg e2] at H; exact absurd H (by simp)
                    rw [if_pos e2] at H
                    by_cases e3 : x2.length < 4398046511104
                    rotate_left
                    · rw [if_neg e3] at H; exact absurd H (by simp)
                    rw [if_pos e3] at H
                    have H := Aside0.mk H
                    have E3 := Aside0.mk e3
                    have e1b := eq_true e1
                    have e2b := eq_true e2
                    clear e1 e2 e3 d0
                    go_wp2_with fail
                    refine start_ (n := 11) (S := fun w' => w'.cell? ⟨w5.heap.size, 0, none⟩ = some (.int .u8 1)) (ds := [9]) #[false, false, false, false, false, false, false, false, false, false, false] (by kernel_rfl) rfl rfl (hk0) (fun hHeld => ?_)
                    refine pure_ (i := 0) (N := some 58) (v := ?_) (a' := ?_) #[true, false, false, false, false, false, false, false, false, false, false] rfl rfl (by kernel_rfl) (fun _ _ _ h => h) (Or.inl ⟨by rfl, ?_⟩) ?_ ?_
                    rotate_left
                    · intro w'
                      go_simp
                      with_reducible rfl
                    rotate_left
                    · simp only [Act.put, List.setIfInBounds_toArray, List.set_cons_zero, List.set_cons_succ, i64_w, i32_w]
                      rfl
                    refine pure_ (i := 1) (N := some 59) (v := ?_) (a' := ?_) #[true, true, false, false, false, false, false, false, false, false, false] rfl rfl (by kernel_rfl) (fun _ _ _ h => h) (Or.inl ⟨by rfl, ?_⟩) ?_ ?_
                    rotate_left
                    · intro w'
                      go_simp
                      with_reducible rfl
                    rotate_left
                    · simp only [Act.put, List.setIfInBounds_toArray, List.set_cons_zero, List.set_cons_succ, i64_w, i32_w]
                      rfl
                    refine pure_ (i := 3) (N := some 61) (v := ?_) (a' := ?_) #[true, true, false, true, false, false, false, false, false, false, false] rfl rfl (by kernel_rfl) (fun _ _ _ h => h) (Or.inl ⟨by rfl, ?_⟩) ?_ ?_
                    rotate_left
                    · intro w'
                      go_simp
                      with_reducible rfl
                    rotate_left
                    · simp only [Act.put, List.setIfInBounds_toArray, List.set_cons_zero, List.set_cons_succ, i64_w, i32_w]
                      rfl
                    refine pure_ (i := 4) (N := some 62) (v := ?_) (a' := ?_) #[true, true, false, true, true, false, false, false, false, false, false] rfl rfl (by kernel_rfl) (fun _ _ _ h => h) (Or.inl ⟨by rfl, ?_⟩) ?_ ?_
                    rotate_left
                    · intro w'
                      go_simp
                      with_reducible rfl
                    rotate_left
                    · simp only [Act.put, List.setIfInBounds_toArray, List.set_cons_zero, List.set_cons_succ, i64_w, i32_w]
                      rfl
                    refine pure_ (i := 5) (N := some 63) (v := ?_) (a' := ?_) #[true, true, false, true, true, true, false, false, false, false, false] rfl rfl (by kernel_rfl) (fun _ _ _ h => h) (Or.inl ⟨by rfl, ?_⟩) ?_ ?_
                    rotate_left
                    · intro w'
                      go_simp
                      with_reducible rfl
                    rotate_left
                    · simp only [Act.put, List.setIfInBounds_toArray, List.set_cons_zero, List.set_cons_succ, i64_w, i32_w]
                      rfl
                    refine pure_ (i := 6) (N := some 64) (v := ?_) (a' := ?_) #[true, true, false, true, true, true, true, false, false, false, false] rfl rfl (by kernel_rfl) (fun _ _ _ h => h) (Or.inl ⟨by rfl, ?_⟩) ?_ ?_
                    rotate_left
                    · intro w'
                      go_simp
                      with_reducible rfl
                    rotate_left
                    · simp only [Act.put, List.setIfInBounds_toArray, List.set_cons_zero, List.set_cons_succ, i64_w, i32_w]
                      rfl
                    refine take_ (i := 2) (N := some 60) (v := ?_) (a' := ?_) #[true, true, true, true, true, true, true, false, false, false, false] rfl rfl (by kernel_rfl) (fun _ _ _ h => h) (Or.inl ⟨by rfl, ?_⟩) hHeld ?_ ?_
                    rotate_left
                    · intro w' s0
                      go_simp
                      with_reducible rfl
                    rotate_left
                    · simp only [Act.put, List.setIfInBounds_toArray, List.set_cons_zero, List.set_cons_succ, i64_w, i32_w]
                      rfl
                    refine pure_ (i := 7) (N := some 65) (v := ?_) (a' := ?_) #[true, true, true, true, true, true, true, true, false, false, false] rfl rfl (by kernel_rfl) (fun _ _ _ h => h) (Or.inl ⟨by rfl, ?_⟩) ?_ ?_
                    rotate_left
                    · intro w'
                      go_simp
                      with_reducible rfl
                    rotate_left
                    · simp only [Act.put, List.setIfInBounds_toArray, List.set_cons_zero, List.set_cons_succ, i64_w, i32_w]
                      rfl
                    refine one_ (i := 8) (N := some 66) #[true, true, true, true, true, true, true, true, true, false, false] rfl rfl (by kernel_rfl) (by decide) (fun K hK => ?_)
                    refine value_ (w1 := ?_) (v := ?_) (by rfl) rfl ?_ ?_
                    rotate_left 2
                    · go_simp
                      constructor
                      · rfl
                      · rfl
                    refine hK.out _ _ ((pw_cell_below (below_alloc (below_drew (Below.refl _ _)) _) hk0)) (fun hHeld => ?_)
                    clear hK K
                    refine norm_ (a' := ?_) ?_ ?_
                    rotate_left
                    · show Act.put _ (some 66) _ = _
                      simp only [Act.put, List.setIfInBounds_toArray, List.set_cons_zero, List.set_cons_succ, i64_w, i32_w]
                      rfl
                    refine last_ (i := 9) (N := some 67) #[true, true, true, true, true, true, true, true, true, true, false] rfl rfl (by kernel_rfl) (by decide) (fun K hK => ?_)
                    refine Kd.R_append_step k37 (w0 := w) w.heap.size rfl (.tmp 58) (.tmp 66) 33 37 (.agg #[(.int .u8 0), (.string ⟨#[]⟩), (.int .i64 0)]) 32 rfl Try.underlying33 info37 rfl (by decide) (by omega) u2 x2 (⟨1, rest.extract 0 n0.toNat, x3⟩ : S37) [.int .u8 1, .string (rest.extract 0 n0.toNat), .int .i64 x3] (fun b => b ≠ w.heap.size) (fun _ => False) rfl rfl (k37_mkM _ _ _ (⟨1, rest.extract 0 n0.toNat, x3⟩ : S37)) (fun _ hk => hk.elim) (fun q hq => by have := (Array.getElem?_eq_some_iff.1 HC60.out).1; simp at hq; omega) (Kd.R_drew HO60.out) (below_drew HB60.out) HB60.out.size (by have := E3.out; omega) ?_
                    intro v7 w7 ho hb hg hat
                    have HO7 := Aside0.mk ho
                    have HB7 := Aside0.mk hb
                    have HC7 := Aside0.mk ((hg.block w.heap.size (by have := (Array.getElem?_eq_some_iff.1 HC60.out).1; simp; omega) (fun h => HO60.out.1 _ h.symm rfl)).trans HC60.out)
                    clear ho hb hg hat
                    refine hK.out _ _ ?_
                    clear hK K
                    refine norm_ (a' := ?_) ?_ ?_
                    rotate_left
                    · show Act.put _ (some 67) _ = _
                      simp only [Act.put, List.setIfInBounds_toArray, List.set_cons_zero, List.set_cons_succ, i64_w, i32_w]
                      rfl
                    refine pure_ (i := 10) (N := some 2) (v := ?_) (a' := ?_) #[true, true, true, true, true, true, true, true, true, true, true] rfl rfl (by kernel_rfl) (fun _ _ _ h => h) (Or.inl ⟨by rfl, ?_⟩) ?_ ?_
                    rotate_left
                    · intro w'
                      go_simp
                      with_reducible rfl
                    rotate_left
                    · simp only [Act.put, List.setIfInBounds_toArray, List.set_cons_zero, List.set_cons_succ, i64_w, i32_w]
                      rfl
                    refine done_ (by kernel_rfl) ?_
                    go_wp2
                    go_roundg k1
                    case measure => have := HK.out; omega
                    case rel => exact ⟨_, _, rfl, H, ⟨by have := HK.out; omega⟩, HO7, HC7, HB7⟩
                  · rw [if_neg d0] at A9
                    have d0b0 : decide (0 < n0) = false := decide_eq_false d0
                    clear d0
                    go_wp2_with fail
                    replace A9 := Option.bind_eq_some_iff.mp A9
                    obtain ⟨n1, B1, A9⟩ := A9
                    have B1 := Aside0.mk B1
                    rw [rounds_succ]
                    go_wp2_with fail
                    refine (tokens_number.calls rest n1 _ B1.out).mono ?_
                    rintro e w61 ⟨rfl, hb⟩
                    have hk1 : w61.cell? ⟨w60.heap.size, 0, none⟩ = some (.int .u8 2) := (hb.cell (p := ⟨w60.heap.size, 0, none⟩) (by simp)).trans (blk_cell (heap_alloc_new _ _) 0)
                    have HO61 := Aside0.mk (Kd.R_below (Kd.R_alloc HO60.out _) hb)
                    have HB61 := Aside0.mk (below_step (below_alloc HB60.out _) hb)
                    have HC61 := Aside0.mk ((hb.block w.heap.size (by have := HB60.out.size; have := (Array.getElem?_eq_some_iff.1 HC60.out).1; simp; omega)).trans ((below_alloc (Below.refl _ _) _).block w.heap.size (Array.getElem?_eq_some_iff.1 HC60.out).1 |>.trans HC60.out))
                    clear HO60 HB60 HC60 hb B1
                    by_cases d1 : n1 > 0
                    · rw [if_pos d1] at A9
                      have d1b0 : decide (0 < n1) = true := decide_eq_true d1
                      obtain ⟨rfl, rfl⟩ : 2 = q1 ∧ n1 = q2 := by simpa using A9
                      clear A9 hc0 hc1 hc2 hc3 hc4 hc5
                      rw [if_pos (by decide)] at H
                      by_cases e1 : 0 ≤ n1
                      rotate_left
                      · rw [if_neg e1] at H; exact absurd H (by simp)
                      rw [if_pos e1] at H
                      by_cases e2 : n1 ≤ (rest.size : Int)
                      rotate_left
                      · rw [if_neg e2] at H; exact absurd H (by simp)
                      rw [if_pos e2] at H
                      by_cases e3 : x2.length < 4398046511104
                      rotate_left
                      · rw [if_neg e3] at H; exact absurd H (by simp)
                      rw [if_pos e3] at H
                      have H := Aside0.mk H
                      have E3 := Aside0.mk e3
                      have e1b := eq_true e1
                      have e2b := eq_true e2
                      clear e1 e2 e3 d1
                      go_wp2_with fail
                      refine start_ (n := 11) (S := fun w' => w'.cell? ⟨w60.heap.size, 0, none⟩ = some (.int .u8 2)) (ds := [9]) #[false, false, false, false, false, false, false, false, false, false, false] (by kernel_rfl) rfl rfl (hk1) (fun hHeld => ?_)
                      refine pure_ (i := 0) (N := some 58) (v := ?_) (a' := ?_) #[true, false, false, false, false, false, false, false, false, false, false] rfl rfl (by kernel_rfl) (fun _ _ _ h => h) (Or.inl ⟨by rfl, ?_⟩) ?_ ?_
                      rotate_left
                      · intro w'
                        go_simp
                        with_reducible rfl
                      rotate_left
                      · simp only [Act.put, List.setIfInBounds_toArray, List.set_cons_zero, List.set_cons_succ, i64_w, i32_w]
                        rfl
                      refine pure_ (i := 1) (N := some 59) (v := ?_) (a' := ?_) #[true, true, false, false, false, false, false, false, false, false, false] rfl rfl (by kernel_rfl) (fun _ _ _ h => h) (Or.inl ⟨by rfl, ?_⟩) ?_ ?_
                      rotate_left
                      · intro w'
                        go_simp
                        with_reducible rfl
                      rotate_left
                      · simp only [Act.put, List.setIfInBounds_toArray, List.set_cons_zero, List.set_cons_succ, i64_w, i32_w]
                        rfl
                      refine pure_ (i := 3) (N := some 61) (v := ?_) (a' := ?_) #[true, true, false, true, false, false, false, false, false, false, false] rfl rfl (by kernel_rfl) (fun _ _ _ h => h) (Or.inl ⟨by rfl, ?_⟩) ?_ ?_
                      rotate_left
                      · intro w'
                        go_simp
                        with_reducible rfl
                      rotate_left
                      · simp only [Act.put, List.setIfInBounds_toArray, List.set_cons_zero, List.set_cons_succ, i64_w, i32_w]
                        rfl
                      refine pure_ (i := 4) (N := some 62) (v := ?_) (a' := ?_) #[true, true, false, true, true, false, false, false, false, false, false] rfl rfl (by kernel_rfl) (fun _ _ _ h => h) (Or.inl ⟨by rfl, ?_⟩) ?_ ?_
                      rotate_left
                      · intro w'
                        go_simp
                        with_reducible rfl
                      rotate_left
                      · simp only [Act.put, List.setIfInBounds_toArray, List.set_cons_zero, List.set_cons_succ, i64_w, i32_w]
                        rfl
                      refine pure_ (i := 5) (N := some 63) (v := ?_) (a' := ?_) #[true, true, false, true, true, true, false, false, false, false, false] rfl rfl (by kernel_rfl) (fun _ _ _ h => h) (Or.inl ⟨by rfl, ?_⟩) ?_ ?_
                      rotate_left
                      · intro w'
                        go_simp
                        with_reducible rfl
                      rotate_left
                      · simp only [Act.put, List.setIfInBounds_toArray, List.set_cons_zero, List.set_cons_succ, i64_w, i32_w]
                        rfl
                      refine pure_ (i := 6) (N := some 64) (v := ?_) (a' := ?_) #[true, true, false, true, true, true, true, false, false, false, false] rfl rfl (by kernel_rfl) (fun _ _ _ h => h) (Or.inl ⟨by rfl, ?_⟩) ?_ ?_
                      rotate_left
                      · intro w'
                        go_simp
                        with_reducible rfl
                      rotate_left
                      · simp only [Act.put, List.setIfInBounds_toArray, List.set_cons_zero, List.set_cons_succ, i64_w, i32_w]
                        rfl
                      refine take_ (i := 2) (N := some 60) (v := ?_) (a' := ?_) #[true, true, true, true, true, true, true, false, false, false, false] rfl rfl (by kernel_rfl) (fun _ _ _ h => h) (Or.inl ⟨by rfl, ?_⟩) hHeld ?_ ?_
                      rotate_left
                      · intro w' s0
                        go_simp
                        with_reducible rfl
                      rotate_left
                      · simp only [Act.put, List.setIfInBounds_toArray, List.set_cons_zero, List.set_cons_succ, i64_w, i32_w]
                        rfl
                      refine pure_ (i := 7) (N := some 65) (v := ?_) (a' := ?_) #[true, true, true, true, true, true, true, true, false, false, false] rfl rfl (by kernel_rfl) (fun _ _ _ h => h) (Or.inl ⟨by rfl, ?_⟩) ?_ ?_
                      rotate_left
                      · intro w'
                        go_simp
                        with_reducible rfl
                      rotate_left
                      · simp only [Act.put, List.setIfInBounds_toArray, List.set_cons_zero, List.set_cons_succ, i64_w, i32_w]
                        rfl
                      refine one_ (i := 8) (N := some 66) #[true, true, true, true, true, true, true, true, true, false, false] rfl rfl (by kernel_rfl) (by decide) (fun K hK => ?_)
                      refine value_ (w1 := ?_) (v := ?_) (by rfl) rfl ?_ ?_
                      rotate_left 2
                      · go_simp
                        constructor
                        · rfl
                        · rfl
                      refine hK.out _ _ ((pw_cell_below (below_alloc (below_drew (Below.refl _ _)) _) hk1)) (fun hHeld => ?_)
                      clear hK K
                      refine norm_ (a' := ?_) ?_ ?_
                      rotate_left
                      · show Act.put _ (some 66) _ = _
                        simp only [Act.put, List.setIfInBounds_toArray, List.set_cons_zero, List.set_cons_succ, i64_w, i32_w]
                        rfl
                      refine last_ (i := 9) (N := some 67) #[true, true, true, true, true, true, true, true, true, true, false] rfl rfl (by kernel_rfl) (by decide) (fun K hK => ?_)
                      refine Kd.R_append_step k37 (w0 := w) w.heap.size rfl (.tmp 58) (.tmp 66) 33 37 (.agg #[(.int .u8 0), (.string ⟨#[]⟩), (.int .i64 0)]) 32 rfl Try.underlying33 info37 rfl (by decide) (by omega) u2 x2 (⟨2, rest.extract 0 n1.toNat, x3⟩ : S37) [.int .u8 2, .string (rest.extract 0 n1.toNat), .int .i64 x3] (fun b => b ≠ w.heap.size) (fun _ => False) rfl rfl (k37_mkM _ _ _ (⟨2, rest.extract 0 n1.toNat, x3⟩ : S37)) (fun _ hk => hk.elim) (fun q hq => by have := (Array.getElem?_eq_some_iff.1 HC61.out).1; simp at hq; omega) (Kd.R_drew HO61.out) (below_drew HB61.out) HB61.out.size (by have := E3.out; omega) ?_
                      intro v7 w7 ho hb hg hat
                      have HO7 := Aside0.mk ho
                      have HB7 := Aside0.mk hb
                      have HC7 := Aside0.mk ((hg.block w.heap.size (by have := (Array.getElem?_eq_some_iff.1 HC61.out).1; simp; omega) (fun h => HO61.out.1 _ h.symm rfl)).trans HC61.out)
                      clear ho hb hg hat
                      refine hK.out _ _ ?_
                      clear hK K
                      refine norm_ (a' := ?_) ?_ ?_
                      rotate_left
                      · show Act.put _ (some 67) _ = _
                        simp only [Act.put, List.setIfInBounds_toArray, List.set_cons_zero, List.set_cons_succ, i64_w, i32_w]
                        rfl
                      refine pure_ (i := 10) (N := some 2) (v := ?_) (a' := ?_) #[true, true, true, true, true, true, true, true, true, true, true] rfl rfl (by kernel_rfl) (fun _ _ _ h => h) (Or.inl ⟨by rfl, ?_⟩) ?_ ?_
                      rotate_left
                      · intro w'
                        go_simp
                        with_reducible rfl
                      rotate_left
                      · simp only [Act.put, List.setIfInBounds_toArray, List.set_cons_zero, List.set_cons_succ, i64_w, i32_w]
                        rfl
                      refine done_ (by kernel_rfl) ?_
                      go_wp2
                      go_roundg k1
                      case measure => have := HK.out; omega
                      case rel => exact ⟨_, _, rfl, H, ⟨by have := HK.out; omega⟩, HO7, HC7, HB7⟩
                    · rw [if_neg d1] at A9
                      have d1b0 : decide (0 < n1) = false := decide_eq_false d1
                      clear d1
                      go_wp2_with fail
                      replace A9 := Option.bind_eq_some_iff.mp A9
                      obtain ⟨n2, B2, A9⟩ := A9
                      have B2 := Aside0.mk B2
                      rw [rounds_succ]
                      go_wp2_with fail
                      refine (tokens_sign.calls k1 rest n2 _ B2.out).mono ?_
                      rintro e w62 ⟨rfl, hd⟩
                      have hb := hd.below
                      have hk2 : w62.cell? ⟨w61.heap.size, 0, none⟩ = some (.int .u8 3) := (hb.cell (p := ⟨w61.heap.size, 0, none⟩) (by simp)).trans (blk_cell (heap_alloc_new _ _) 0)
                      have HO62 := Aside0.mk (Kd.R_below (Kd.R_alloc HO61.out _) hb)
                      have HB62 := Aside0.mk (below_step (below_alloc HB61.out _) hb)
                      have HC62 := Aside0.mk ((hb.block w.heap.size (by have := HB61.out.size; have := (Array.getElem?_eq_some_iff.1 HC61.out).1; simp; omega)).trans ((below_alloc (Below.refl _ _) _).block w.heap.size (Array.getElem?_eq_some_iff.1 HC61.out).1 |>.trans HC61.out))
                      clear HO61 HB61 HC61 hb B2
                      clear hd
                      by_cases d2 : n2 > 0
                      · rw [if_pos d2] at A9
                        have d2b0 : decide (0 < n2) = true := decide_eq_true d2
                        obtain ⟨rfl, rfl⟩ : 3 = q1 ∧ n2 = q2 := by simpa using A9
                        clear A9 hc0 hc1 hc2 hc3 hc4 hc5
                        rw [if_pos (by decide)] at H
                        by_cases e1 : 0 ≤ n2
                        rotate_left
                        · rw [if_neg e1] at H; exact absurd H (by simp)
                        rw [if_pos e1] at H
                        by_cases e2 : n2 ≤ (rest.size : Int)
                        rotate_left
                        · rw [if_neg e2] at H; exact absurd H (by simp)
                        rw [if_pos e2] at H
                        by_cases e3 : x2.length < 4398046511104
                        rotate_left
                        · rw [if_neg e3] at H; exact absurd H (by simp)
                        rw [if_pos e3] at H
                        have H := Aside0.mk H
                        have E3 := Aside0.mk e3
                        have e1b := eq_true e1
                        have e2b := eq_true e2
                        clear e1 e2 e3 d2
                        go_wp2_with fail
                        refine start_ (n := 11) (S := fun w' => w'.cell? ⟨w61.heap.size, 0, none⟩ = some (.int .u8 3)) (ds := [9]) #[false, false, false, false, false, false, false, false, false, false, false] (by kernel_rfl) rfl rfl (hk2) (fun hHeld => ?_)
                        refine pure_ (i := 0) (N := some 58) (v := ?_) (a' := ?_) #[true, false, false, false, false, false, false, false, false, false, false] rfl rfl (by kernel_rfl) (fun _ _ _ h => h) (Or.inl ⟨by rfl, ?_⟩) ?_ ?_
                        rotate_left
                        · intro w'
                          go_simp
                          with_reducible rfl
                        rotate_left
                        · simp only [Act.put, List.setIfInBounds_toArray, List.set_cons_zero, List.set_cons_succ, i64_w, i32_w]
                          rfl
                        refine pure_ (i := 1) (N := some 59) (v := ?_) (a' := ?_) #[true, true, false, false, false, false, false, false, false, false, false] rfl rfl (by kernel_rfl) (fun _ _ _ h => h) (Or.inl ⟨by rfl, ?_⟩) ?_ ?_
                        rotate_left
                        · intro w'
                          go_simp
                          with_reducible rfl
                        rotate_left
                        · simp only [Act.put, List.setIfInBounds_toArray, List.set_cons_zero, List.set_cons_succ, i64_w, i32_w]
                          rfl
                        refine pure_ (i := 3) (N := some 61) (v := ?_) (a' := ?_) #[true, true, false, true, false, false, false, false, false, false, false] rfl rfl (by kernel_rfl) (fun _ _ _ h => h) (Or.inl ⟨by rfl, ?_⟩) ?_ ?_
                        rotate_left
                        · intro w'
                          go_simp
                          with_reducible rfl
                        rotate_left
                        · simp only [Act.put, List.setIfInBounds_toArray, List.set_cons_zero, List.set_cons_succ, i64_w, i32_w]
                          rfl
                        refine pure_ (i := 4) (N := some 62) (v := ?_) (a' := ?_) #[true, true, false, true, true, false, false, false, false, false, false] rfl rfl (by kernel_rfl) (fun _ _ _ h => h) (Or.inl ⟨by rfl, ?_⟩) ?_ ?_
                        rotate_left
                        · intro w'
                          go_simp
                          with_reducible rfl
                        rotate_left
                        · simp only [Act.put, List.setIfInBounds_toArray, List.set_cons_zero, List.set_cons_succ, i64_w, i32_w]
                          rfl
                        refine pure_ (i := 5) (N := some 63) (v := ?_) (a' := ?_) #[true, true, false, true, true, true, false, false, false, false, false] rfl rfl (by kernel_rfl) (fun _ _ _ h => h) (Or.inl ⟨by rfl, ?_⟩) ?_ ?_
                        rotate_left
                        · intro w'
                          go_simp
                          with_reducible rfl
                        rotate_left
                        · simp only [Act.put, List.setIfInBounds_toArray, List.set_cons_zero, List.set_cons_succ, i64_w, i32_w]
                          rfl
                        refine pure_ (i := 6) (N := some 64) (v := ?_) (a' := ?_) #[true, true, false, true, true, true, true, false, false, false, false] rfl rfl (by kernel_rfl) (fun _ _ _ h => h) (Or.inl ⟨by rfl, ?_⟩) ?_ ?_
                        rotate_left
                        · intro w'
                          go_simp
                          with_reducible rfl
                        rotate_left
                        · simp only [Act.put, List.setIfInBounds_toArray, List.set_cons_zero, List.set_cons_succ, i64_w, i32_w]
                          rfl
                        refine take_ (i := 2) (N := some 60) (v := ?_) (a' := ?_) #[true, true, true, true, true, true, true, false, false, false, false] rfl rfl (by kernel_rfl) (fun _ _ _ h => h) (Or.inl ⟨by rfl, ?_⟩) hHeld ?_ ?_
                        rotate_left
                        · intro w' s0
                          go_simp
                          with_reducible rfl
                        rotate_left
                        · simp only [Act.put, List.setIfInBounds_toArray, List.set_cons_zero, List.set_cons_succ, i64_w, i32_w]
                          rfl
                        refine pure_ (i := 7) (N := some 65) (v := ?_) (a' := ?_) #[true, true, true, true, true, true, true, true, false, false, false] rfl rfl (by kernel_rfl) (fun _ _ _ h => h) (Or.inl ⟨by rfl, ?_⟩) ?_ ?_
                        rotate_left
                        · intro w'
                          go_simp
                          with_reducible rfl
                        rotate_left
                        · simp only [Act.put, List.setIfInBounds_toArray, List.set_cons_zero, List.set_cons_succ, i64_w, i32_w]
                          rfl
                        refine one_ (i := 8) (N := some 66) #[true, true, true, true, true, true, true, true, true, false, false] rfl rfl (by kernel_rfl) (by decide) (fun K hK => ?_)
                        refine value_ (w1 := ?_) (v := ?_) (by rfl) rfl ?_ ?_
                        rotate_left 2
                        · go_simp
                          constructor
                          · rfl
                          · rfl
                        refine hK.out _ _ ((pw_cell_below (below_alloc (below_drew (Below.refl _ _)) _) hk2)) (fun hHeld => ?_)
                        clear hK K
                        refine norm_ (a' := ?_) ?_ ?_
                        rotate_left
                        · show Act.put _ (some 66) _ = _
                          simp only [Act.put, List.setIfInBounds_toArray, List.set_cons_zero, List.set_cons_succ, i64_w, i32_w]
                          rfl
                        refine last_ (i := 9) (N := some 67) #[true, true, true, true, true, true, true, true, true, true, false] rfl rfl (by kernel_rfl) (by decide) (fun K hK => ?_)
                        refine Kd.R_append_step k37 (w0 := w) w.heap.size rfl (.tmp 58) (.tmp 66) 33 37 (.agg #[(.int .u8 0), (.string ⟨#[]⟩), (.int .i64 0)]) 32 rfl Try.underlying33 info37 rfl (by decide) (by omega) u2 x2 (⟨3, rest.extract 0 n2.toNat, x3⟩ : S37) [.int .u8 3, .string (rest.extract 0 n2.toNat), .int .i64 x3] (fun b => b ≠ w.heap.size) (fun _ => False) rfl rfl (k37_mkM _ _ _ (⟨3, rest.extract 0 n2.toNat, x3⟩ : S37)) (fun _ hk => hk.elim) (fun q hq => by have := (Array.getElem?_eq_some_iff.1 HC62.out).1; simp at hq; omega) (Kd.R_drew HO62.out) (below_drew HB62.out) HB62.out.size (by have := E3.out; omega) ?_
                        intro v7 w7 ho hb hg hat
                        have HO7 := Aside0.mk ho
                        have HB7 := Aside0.mk hb
                        have HC7 := Aside0.mk ((hg.block w.heap.size (by have := (Array.getElem?_eq_some_iff.1 HC62.out).1; simp; omega) (fun h => HO62.out.1 _ h.symm rfl)).trans HC62.out)
                        clear ho hb hg hat
                        refine hK.out _ _ ?_
                        clear hK K
                        refine norm_ (a' := ?_) ?_ ?_
                        rotate_left
                        · show Act.put _ (some 67) _ = _
                          simp only [Act.put, List.setIfInBounds_toArray, List.set_cons_zero, List.set_cons_succ, i64_w, i32_w]
                          rfl
                        refine pure_ (i := 10) (N := some 2) (v := ?_) (a' := ?_) #[true, true, true, true, true, true, true, true, true, true, true] rfl rfl (by kernel_rfl) (fun _ _ _ h => h) (Or.inl ⟨by rfl, ?_⟩) ?_ ?_
                        rotate_left
                        · intro w'
                          go_simp
                          with_reducible rfl
                        rotate_left
                        · simp only [Act.put, List.setIfInBounds_toArray, List.set_cons_zero, List.set_cons_succ, i64_w, i32_w]
                          rfl
                        refine done_ (by kernel_rfl) ?_
                        go_wp2
                        go_roundg k1
                        case measure => have := HK.out; omega
                        case rel => exact ⟨_, _, rfl, H, ⟨by have := HK.out; omega⟩, HO7, HC7, HB7⟩
                      · rw [if_neg d2] at A9
                        have d2b0 : decide (0 < n2) = false := decide_eq_false d2
                        clear d2
                        go_wp2_with fail
                        obtain ⟨rfl, rfl⟩ : 0 = q1 ∧ 0 = q2 := by simpa using A9
                        rw [if_neg (by decide)] at H
                        simp only [Option.some.injEq, Prod.mk.injEq] at H
                        obtain ⟨rfl, rfl, rfl⟩ := H
                        rw [rounds_succ]
                        go_wp2
                        try rw [Exit.noGoto_ret]
                        go_ret3
                        exact ⟨_, rfl, Kd.R_nil _ _ _ _ _, HB62.out⟩
              · rw [if_neg c7] at H
                exact absurd H (by simp)
          · rw [if_neg c4] at H
            exact absurd H (by simp)
        · rw [if_neg c3] at H
          have c3b0 : decide (x3 < (a0.size : Int)) = false := decide_eq_false c3
          clear c3
          simp only [Option.some.injEq, Prod.mk.injEq] at H
          obtain ⟨rfl, rfl, rfl⟩ := H
          go_wp2
          rw [Exit.noGoto_ret]
          go_ret3
          exact ⟨_, rfl, Kd.R_mono HO.out (fun _ _ => trivial), HB.out⟩

/-! ### assayerlaw01_SameTokens: function 18 -/
def assayerlaw01_SameTokens.l0 : Nat → List (S37) → List (S37) → Int → Option (Bool)
  | 0, _, _, _ => none
  | k + 1, x0, x1, x5 => if x5 < (x0.length : Int) then (if 0 ≤ x5 then (if x5 < (x1.length : Int) then (if (!(((rd_T37 x0 x5).f0) == ((rd_T37 x1 x5).f0)) || (!((((rd_T37 x0 x5).f1).toList) == (((rd_T37 x1 x5).f1).toList)) || (!(((rd_T37 x0 x5).f2) == ((rd_T37 x1 x5).f2))))) = true then (some false) else (assayerlaw01_SameTokens.l0 k x0 x1 (wrap64 (x5 + 1)))) else (none)) else (none)) else (some true)
def assayerlaw01_SameTokens.f (k : Nat) (l0 : List (S37)) (l1 : List (S37)) : Option (Bool) := if (l0.length : Int) = (l1.length : Int) then (assayerlaw01_SameTokens.l0 k l0 l1 0) else (some false)
theorem assayerlaw01_SameTokens.mono_l : ∀ k, (∀ y0 y1 y2, LeO (assayerlaw01_SameTokens.l0 k y0 y1 y2) (assayerlaw01_SameTokens.l0 (k + 1) y0 y1 y2))
  | 0 => fun _ _ _ r h => by simp [assayerlaw01_SameTokens.l0] at h
  | k + 1 => by
    have ih0 := assayerlaw01_SameTokens.mono_l k
    · intro y0 y1 y2
      unfold assayerlaw01_SameTokens.l0
      repeat' first
      | (with_reducible exact ih0 _ _ _)
      | (with_reducible exact LeO.refl _)
      | (with_reducible exact LeO.none _)
      | (with_reducible refine LeO.ite ?_ ?_)
      | (with_reducible refine LeO.bind ?_ (fun _ => ?_))
      | exact ih0 _ _ _
      | exact LeO.none _
      | refine LeO.ite ?_ ?_
      | refine LeO.bind ?_ (fun _ => ?_)
theorem assayerlaw01_SameTokens.mono : ∀ a0 a1 k, LeO (assayerlaw01_SameTokens.f k a0 a1) (assayerlaw01_SameTokens.f (k + 1) a0 a1) := by
  intro a0 a1 k
  have ih0 := assayerlaw01_SameTokens.mono_l k
  unfold assayerlaw01_SameTokens.f
  repeat' first
      | (with_reducible exact ih0 _ _ _)
      | (with_reducible exact LeO.refl _)
      | (with_reducible exact LeO.none _)
      | (with_reducible refine LeO.ite ?_ ?_)
      | (with_reducible refine LeO.bind ?_ (fun _ => ?_))
      | exact ih0 _ _ _
      | exact LeO.none _
      | refine LeO.ite ?_ ?_
      | refine LeO.bind ?_ (fun _ => ?_)
set_option maxHeartbeats 8000000 in
set_option maxRecDepth 100000 in
theorem assayerlaw01_SameTokens.calls (k : Nat) (A0 : Option Addr) (c0 : Nat) (l0 : List (S37)) (A1 : Option Addr) (c1 : Nat) (l1 : List (S37)) (r : Bool) (w : World) (hr0 : Kd.C k37 w A0 l0.length l0) (hc0 : l0.length ≤ c0) (hr1 : Kd.C k37 w A1 l1.length l1) (hc1 : l1.length ≤ c1) (h : assayerlaw01_SameTokens.f k l0 l1 = some r) :
    Calls Try.prog 18 #[.slice A0 l0.length c0, .slice A1 l1.length c1] w fun e w' => e = .returned (.bool r) ∧ Drawn0 w w' := by
  have hu37 := Try.underlying37
  have HR0 := Aside0.mk hr0
  have HC0 := Aside0.mk hc0
  clear hr0 hc0
  have HR1 := Aside0.mk hr1
  have HC1 := Aside0.mk hc1
  clear hr1 hc1
  have H : (if (l0.length : Int) = (l1.length : Int) then (assayerlaw01_SameTokens.l0 k l0 l1 0) else (some false)) = some r := h
  clear h
  by_cases c3 : (l0.length : Int) = (l1.length : Int)
  · rw [if_pos c3] at H
    have c3b0 : ((l0.length : Int) == (l1.length : Int)) = true := beq_iff_eq.mpr c3
    have c3b1 : ((l0.length : Int) != (l1.length : Int)) = false := bne_eq_false_iff_eq.mpr c3
    have c3b2 : (l0.length == l1.length) = true := by first | simpa using c3 | (simp at c3 ⊢; omega)
    clear c3
    have H' := Aside0.mk H
    clear H
    go_enter Try.func18, Try.ntmps18
    go_wp2
    repeat (go_quiet (fail); try go_wp2)
    go_loopg [5] k (fun kq v5 w' => ∃ (x5_1 : Int), v5 = .int .i64 x5_1 ∧ Aside0 (assayerlaw01_SameTokens.l0 kq l0 l1 x5_1 = some r) ∧ Aside0 (kq ≤ k) ∧ Drawn0 w w')
    case atStart => exact ⟨(0), (by first | rfl | (simp; done) | (simp [*]; done)), H', ⟨Nat.le_refl _⟩, by repeat (first | exact Drawn0.refl _ | apply Drawn0.step)⟩
    case round =>
      clear H'
      try clear c1
      try clear p2
      try clear c3
      try clear c3b0
      try clear c3b1
      try clear c3b2
      obtain ⟨x5_1, rfl, HA, HK1, ⟨m1, rfl⟩⟩ := hrel
      cases gk with
      | zero => exact absurd HA.out (by simp [assayerlaw01_SameTokens.l0])
      | succ k1 =>
        have H := HA.out
        clear HA
        simp only [assayerlaw01_SameTokens.l0] at H
        by_cases c4 : x5_1 < (l0.length : Int)
        · rw [if_pos c4] at H
          have c4b0 : decide (x5_1 < (l0.length : Int)) = true := decide_eq_true c4
          clear c4
          by_cases c5 : 0 ≤ x5_1
          · rw [if_pos c5] at H
            have c5b0 : decide (0 ≤ x5_1) = true := decide_eq_true c5
            clear c5
            by_cases c6 : x5_1 < (l1.length : Int)
            · rw [if_pos c6] at H
              have c6b0 : decide (x5_1 < (l1.length : Int)) = true := decide_eq_true c6
              clear c6
              by_cases c7 : (!(((rd_T37 l0 x5_1).f0) == ((rd_T37 l1 x5_1).f0)) || (!((((rd_T37 l0 x5_1).f1).toList) == (((rd_T37 l1 x5_1).f1).toList)) || (!(((rd_T37 l0 x5_1).f2) == ((rd_T37 l1 x5_1).f2))))) = true
              · rw [if_pos c7] at H
                have c7b0 : (!(((rd_T37 l0 x5_1).f0) == ((rd_T37 l1 x5_1).f0)) || (!((((rd_T37 l0 x5_1).f1).toList) == (((rd_T37 l1 x5_1).f1).toList)) || (!(((rd_T37 l0 x5_1).f2) == ((rd_T37 l1 x5_1).f2))))) = true := c7
                clear c7
                obtain rfl := Option.some.inj H
                have p130 : 0 ≤ (x5_1 : Int) := of_decide_eq_true (by first | (with_reducible assumption) | assumption)
                have q130 : x5_1 < (l0.length : Int) := of_decide_eq_true (by first | (with_reducible assumption) | assumption)
                obtain ⟨ad130, e130, hx130_0, hx130_1, hx130_2⟩ := at_T37 HR0.out x5_1 p130 q130
                cases e130
                replace p130 := eq_true p130
                replace q130 := eq_true q130
                have p131 : 0 ≤ (x5_1 : Int) := of_decide_eq_true (by first | (with_reducible assumption) | assumption)
                have q131 : x5_1 < (l1.length : Int) := of_decide_eq_true (by first | (with_reducible assumption) | assumption)
                obtain ⟨ad131, e131, hx131_0, hx131_1, hx131_2⟩ := at_T37 HR1.out x5_1 p131 q131
                cases e131
                replace p131 := eq_true p131
                replace q131 := eq_true q131
                go_wp2
                repeat (go_quiet (fail); try go_wp2)
                go_ret
                exact ⟨by first | rfl | (simp; done) | (simp [*]; done), by repeat (first | exact Drawn0.refl _ | apply Drawn0.step)⟩
              · rw [if_neg c7] at H
                have c7b0 : (!(((rd_T37 l0 x5_1).f0) == ((rd_T37 l1 x5_1).f0)) || (!((((rd_T37 l0 x5_1).f1).toList) == (((rd_T37 l1 x5_1).f1).toList)) || (!(((rd_T37 l0 x5_1).f2) == ((rd_T37 l1 x5_1).f2))))) = false := by simpa using c7
                clear c7
                have H' := Aside0.mk H
                clear H
                have p130 : 0 ≤ (x5_1 : Int) := of_decide_eq_true (by first | (with_reducible assumption) | assumption)
                have q130 : x5_1 < (l0.length : Int) := of_decide_eq_true (by first | (with_reducible assumption) | assumption)
                obtain ⟨ad130, e130, hx130_0, hx130_1, hx130_2⟩ := at_T37 HR0.out x5_1 p130 q130
                cases e130
                replace p130 := eq_true p130
                replace q130 := eq_true q130
                have p131 : 0 ≤ (x5_1 : Int) := of_decide_eq_true (by first | (with_reducible assumption) | assumption)
                have q131 : x5_1 < (l1.length : Int) := of_decide_eq_true (by first | (with_reducible assumption) | assumption)
                obtain ⟨ad131, e131, hx131_0, hx131_1, hx131_2⟩ := at_T37 HR1.out x5_1 p131 q131
                cases e131
                replace p131 := eq_true p131
                replace q131 := eq_true q131
                go_wp2
                repeat (go_quiet (fail); try go_wp2)
                go_roundg k1
                case measure => have := HK1.out; omega
                case rel => exact ⟨(wrap64 (x5_1 + 1)), (by first | rfl | (simp; done) | (simp [*]; done)), H', ⟨by have := HK1.out; omega⟩, by repeat (first | exact Drawn0.refl _ | apply Drawn0.step)⟩
            · rw [if_neg c6] at H
              exact absurd H (by simp)
          · rw [if_neg c5] at H
            exact absurd H (by simp)
        · rw [if_neg c4] at H
          have c4b0 : decide (x5_1 < (l0.length : Int)) = false := decide_eq_false c4
          clear c4
          obtain rfl := Option.some.inj H
          go_wp2
          repeat (go_quiet (fail); try go_wp2)
          go_ret
          exact ⟨by first | rfl | (simp; done) | (simp [*]; done), by repeat (first | exact Drawn0.refl _ | apply Drawn0.step)⟩
  · rw [if_neg c3] at H
    have c3b0 : ((l0.length : Int) == (l1.length : Int)) = false := beq_eq_false_iff_ne.mpr c3
    have c3b1 : ((l0.length : Int) != (l1.length : Int)) = true := bne_iff_ne.mpr c3
    have c3b2 : (l0.length == l1.length) = false := by first | simpa using c3 | (simp at c3 ⊢; omega)
    obtain rfl := Option.some.inj H
    go_enter Try.func18, Try.ntmps18
    go_wp2
    repeat (go_quiet (fail); try go_wp2)
    go_ret
    exact ⟨by first | rfl | (simp; done) | (simp [*]; done), by repeat (first | exact Drawn0.refl _ | apply Drawn0.step)⟩

end Go.Proofs.Ytogmmdnfaoaaoaa.X
