-- Laid by wip/gen.py (a program of this session) over the kit's print.py, with hand-proved contracts among its functions. Not trusted: Lean checks it.
import Derived.Test.YtgebfcdpbeaknaaX0
import Derived.Test.YtgebfcdpbeaknaaX7
import Derived.Test.YtgebfcdpbeaknaaX11
namespace Go.Proofs.Ytgebfcdpbeaknaa.X
open Go.RowKit Go.Proofs.YtgebfcdpbeaknaaW.PrintWords Go.Proofs.YtgebfcdpbeaknaaW.PrintLast Go.Proofs.YtgebfcdpbeaknaaW.PrintMore
attribute [local go_sem] max2_int min2_int max_two min_two max_three min_three max_four min_four   -- for this text's walks alone
set_option linter.unusedVariables false
set_option linter.unusedSimpArgs false

/-! ### ledgers_named: function 16 -/
-- by hand: ledgers_named.tpl
def ledgers_named.l0 : Nat → ByteArray → Int → Option (Bool)
  | 0, _, _ => none
  | k + 1, a0, i => if i < (a0.size : Int) then (if 0 ≤ i then ((ledgers_letter.f (bt a0 i)).bind fun t => if t = true then ledgers_named.l0 k a0 (wrap64 (i + 1)) else if i = 0 then some false else if bt a0 i = 95 then ledgers_named.l0 k a0 (wrap64 (i + 1)) else if bt a0 i < 48 then some false else if bt a0 i > 57 then some false else ledgers_named.l0 k a0 (wrap64 (i + 1))) else none)
    else if a0.toList = [] then some false else if (a0.size : Int) ≤ 32 then ((slices_Contains_string_string.f k [⟨#[109, 111, 115, 116]⟩, ⟨#[108, 101, 97, 115, 116]⟩, ⟨#[115, 117, 109]⟩, ⟨#[114, 111, 119, 115]⟩, ⟨#[118, 97, 114, 115]⟩, ⟨#[119, 104, 111, 108, 101]⟩, ⟨#[102, 114, 101, 101]⟩, ⟨#[101, 110, 100]⟩] a0).bind fun t => some (!t)) else some false
def ledgers_named.f (k : Nat) (a0 : ByteArray) : Option (Bool) := ledgers_named.l0 k a0 0
theorem ledgers_named.mono_l : ∀ k, ∀ y0 y1, LeO (ledgers_named.l0 k y0 y1) (ledgers_named.l0 (k + 1) y0 y1)
  | 0 => fun _ _ r h => by simp [ledgers_named.l0] at h
  | k + 1 => by
    have ih0 := ledgers_named.mono_l k
    intro y0 y1
    unfold ledgers_named.l0
    repeat' first
    | (with_reducible exact ih0 _ _)
    | (with_reducible exact slices_Contains_string_string.mono _ _ _)
    | (with_reducible exact LeO.refl _)
    | (with_reducible refine LeO.ite ?_ ?_)
    | (with_reducible refine LeO.bind ?_ (fun _ => ?_))
theorem ledgers_named.mono : ∀ a0 k, LeO (ledgers_named.f k a0) (ledgers_named.f (k + 1) a0) := fun a0 k => ledgers_named.mono_l k a0 0
theorem ledgers_named.C_new {α : Type} {enc : α → Value} {h1 : ∀ x, (enc x).oneCell' = true} (d0 : α) (w : World) (e : Nat) (xs : List α) (hn : xs.length ≤ 9223372036854775807) : (Kd.scalar enc h1).C (w.alloc (.cells (xs.map enc).toArray e)) (some ⟨w.heap.size, 0, none⟩) xs.length xs := by
  refine Kd.C_of_reads (d := d0) ⟨rfl, hn, fun _ => ⟨_, rfl, fun j hj => ?_⟩⟩
  rw [Addr.add_lit, Nat.zero_add]
  simp [go_sem, hj, List.getD]
set_option maxHeartbeats 1600000 in
set_option maxRecDepth 100000 in
theorem ledgers_named.calls (k : Nat) (a0 : ByteArray) (r : Bool) (w : World) (h : ledgers_named.f k a0 = some r) :
    Calls Try.prog 16 #[.string a0] w fun e w' => e = .returned (.bool r) ∧ Below w.heap.size w w' := by
  have H := Aside0.mk (show ledgers_named.l0 k a0 0 = some r from h)
  clear h
  have hcv := Lib.run_convert_string_bytes (P := Try.prog) w 9 55 5 a0 Try.underlying9 Try.underlying55 Try.underlying5
  have hcw := Aside0.mk (fun j (hj : j < a0.size) => Lib.bytesWorld_cell w 5 a0 j hj)
  have hbw := Aside0.mk (show Below w.heap.size w (Lib.bytesWorld w 5 a0) from ⟨rfl, rfl, rfl, by rw [Lib.bytesWorld_size]; omega, fun i hi => Lib.bytesWorld_at_old w _ a0 i hi⟩)
  obtain ⟨W1, hW1⟩ : ∃ W1, W1 = Lib.bytesWorld w 5 a0 := ⟨_, rfl⟩
  rw [← hW1] at hcv hcw hbw
  clear hW1
  go_enter Try.func16, Try.ntmps16
  go_wp2
  clear hcv
  go_loopg [8] k (fun kq v8 w' => ∃ (i : Int), v8 = .int .i64 i ∧ Aside0 (ledgers_named.l0 kq a0 i = some r) ∧ Aside0 (kq ≤ k) ∧ Aside0 (∀ j, j < a0.size → w'.cell? ⟨w.heap.size, j, none⟩ = some (.int .u8 (a0.data.toList.getD j 0).toNat)) ∧ Aside0 (Below w.heap.size w w'))
  case atStart => exact ⟨0, rfl, H, ⟨Nat.le_refl _⟩, hcw, hbw⟩
  case round =>
    clear H hcw hbw
    obtain ⟨i, rfl, HA, HK, HC, HB⟩ := hrel
    cases gk with
    | zero => exact absurd HA.out (by simp [ledgers_named.l0])
    | succ k1 =>
      have H := HA.out
      clear HA
      simp only [ledgers_named.l0] at H
      by_cases c1 : i < (a0.size : Int)
      · rw [if_pos c1] at H
        by_cases c2 : 0 ≤ i
        · rw [if_pos c2] at H
          obtain ⟨n, rfl⟩ := Int.eq_ofNat_of_zero_le c2
          have hcell : wr.cell? ⟨w.heap.size, n, none⟩ = some (.int .u8 (bt a0 (n : Int))) := by
            rw [HC.out n (by omega)]
            have hn : n < a0.size := by omega
            simp [bt, hn, List.getD]
            rfl
          have c1b0 : decide ((n : Int) < (a0.size : Int)) = true := decide_eq_true c1
          have c1b1 : decide (n < a0.size) = true := decide_eq_true (by omega)
          have hrange := bt_range a0 (n : Int)
          replace H := Option.bind_eq_some_iff.mp H
          obtain ⟨t, A1, H⟩ := H
          replace A1 := Aside0.mk A1
          generalize hbt : bt a0 (n : Int) = c at hcell A1 H hrange
          have HBT := Aside0.mk hbt
          have c1n : n < a0.size := by omega
          clear hbt c1 c2
          cases t
          · simp only [Bool.false_eq_true, if_false] at H
            by_cases e0 : (n : Int) = 0
            · rw [if_pos e0] at H
              obtain rfl := Option.some.inj H
              have e0b0 : ((n : Int) == 0) = true := beq_iff_eq.mpr e0
              have e0b1 : (n == 0) = true := by simp; omega
              have e0b2 : decide ((n : Int) = 0) = true := decide_eq_true e0
              have e0b3 : decide (n = 0) = true := decide_eq_true (by omega)
              clear e0 H
              go_wp2_with fail
              refine (ledgers_letter.calls c false _ A1.out).mono ?_
              rintro e w1 ⟨rfl, ⟨nd, rfl⟩⟩
              have HC1 := Aside0.mk (fun j (hj : j < a0.size) => (show (wr.drewN nd).cell? ⟨w.heap.size, j, none⟩ = _ from HC.out j hj))
              have HB1 := Aside0.mk (pw_below_drewN HB.out nd)
              clear HC HB
              go_wp2
              go_ret
              exact ⟨rfl, by repeat (first | exact HB1.out | apply pw_below_drewN | apply below_drew1)⟩
            · rw [if_neg e0] at H
              have e0b0 : ((n : Int) == 0) = false := beq_eq_false_iff_ne.mpr e0
              have e0b1 : (n == 0) = false := by simp; omega
              have e0b2 : decide ((n : Int) = 0) = false := decide_eq_false e0
              have e0b3 : decide (n = 0) = false := decide_eq_false (by omega)
              clear e0
              by_cases e1 : c = 95
              · rw [if_pos e1] at H
                have H := Aside0.mk H
                have e1b0 : (c == 95) = true := beq_iff_eq.mpr e1
                have e1b1 : (c != 95) = false := bne_eq_false_iff_eq.mpr e1
                clear e1
                go_wp2_with fail
                refine (ledgers_letter.calls c false _ A1.out).mono ?_
                rintro e w1 ⟨rfl, ⟨nd, rfl⟩⟩
                have HC1 := Aside0.mk (fun j (hj : j < a0.size) => (show (wr.drewN nd).cell? ⟨w.heap.size, j, none⟩ = _ from HC.out j hj))
                have HB1 := Aside0.mk (pw_below_drewN HB.out nd)
                clear HC HB
                go_wp2
                go_roundg k1
                case measure => have := HK.out; omega
                case rel => exact ⟨_, rfl, H, ⟨by have := HK.out; omega⟩, by first | exact HC1 | exact ⟨fun j hj => HC1.out j hj⟩, by first | exact HB1 | exact ⟨by repeat (first | exact HB1.out | apply pw_below_drewN | apply below_drew1)⟩⟩
              · rw [if_neg e1] at H
                have e1b0 : (c == 95) = false := beq_eq_false_iff_ne.mpr e1
                have e1b1 : (c != 95) = true := bne_iff_ne.mpr e1
                by_cases e2 : c < 48
                · rw [if_pos e2] at H
                  obtain rfl := Option.some.inj H
                  have e2b0 : decide (c < 48) = true := decide_eq_true e2
                  clear H
                  go_wp2_with fail
                  refine (ledgers_letter.calls c false _ A1.out).mono ?_
                  rintro e w1 ⟨rfl, ⟨nd, rfl⟩⟩
                  have HC1 := Aside0.mk (fun j (hj : j < a0.size) => (show (wr.drewN nd).cell? ⟨w.heap.size, j, none⟩ = _ from HC.out j hj))
                  have HB1 := Aside0.mk (pw_below_drewN HB.out nd)
                  clear HC HB
                  go_wp2
                  go_ret
                  exact ⟨rfl, by repeat (first | exact HB1.out | apply pw_below_drewN | apply below_drew1)⟩
                · rw [if_neg e2] at H
                  have e2b0 : decide (c < 48) = false := decide_eq_false e2
                  by_cases e3 : c > 57
                  · rw [if_pos e3] at H
                    obtain rfl := Option.some.inj H
                    have e3b0 : decide (57 < c) = true := decide_eq_true e3
                    have e3b1 : decide (c > 57) = true := decide_eq_true e3
                    clear H
                    go_wp2_with fail
                    refine (ledgers_letter.calls c false _ A1.out).mono ?_
                    rintro e w1 ⟨rfl, ⟨nd, rfl⟩⟩
                    have HC1 := Aside0.mk (fun j (hj : j < a0.size) => (show (wr.drewN nd).cell? ⟨w.heap.size, j, none⟩ = _ from HC.out j hj))
                    have HB1 := Aside0.mk (pw_below_drewN HB.out nd)
                    clear HC HB
                    go_wp2
                    go_ret
                    exact ⟨rfl, by repeat (first | exact HB1.out | apply pw_below_drewN | apply below_drew1)⟩
                  · rw [if_neg e3] at H
                    have e3b0 : decide (57 < c) = false := decide_eq_false e3
                    have e3b1 : decide (c > 57) = false := decide_eq_false e3
                    have H := Aside0.mk H
                    go_wp2_with fail
                    refine (ledgers_letter.calls c false _ A1.out).mono ?_
                    rintro e w1 ⟨rfl, ⟨nd, rfl⟩⟩
                    have HC1 := Aside0.mk (fun j (hj : j < a0.size) => (show (wr.drewN nd).cell? ⟨w.heap.size, j, none⟩ = _ from HC.out j hj))
                    have HB1 := Aside0.mk (pw_below_drewN HB.out nd)
                    clear HC HB
                    go_wp2
                    go_roundg k1
                    case measure => have := HK.out; omega
                    case rel => exact ⟨_, rfl, H, ⟨by have := HK.out; omega⟩, by first | exact HC1 | exact ⟨fun j hj => HC1.out j hj⟩, by first | exact HB1 | exact ⟨by repeat (first | exact HB1.out | apply pw_below_drewN | apply below_drew1)⟩⟩
          · simp only [if_true] at H
            have H := Aside0.mk H
            go_wp2_with fail
            refine (ledgers_letter.calls c true _ A1.out).mono ?_
            rintro e w1 ⟨rfl, ⟨nd, rfl⟩⟩
            have HC1 := Aside0.mk (fun j (hj : j < a0.size) => (show (wr.drewN nd).cell? ⟨w.heap.size, j, none⟩ = _ from HC.out j hj))
            have HB1 := Aside0.mk (pw_below_drewN HB.out nd)
            clear HC HB
            go_wp2
            go_roundg k1
            case measure => have := HK.out; omega
            case rel => exact ⟨_, rfl, H, ⟨by have := HK.out; omega⟩, by first | exact HC1 | exact ⟨fun j hj => HC1.out j hj⟩, by first | exact HB1 | exact ⟨by repeat (first | exact HB1.out | apply pw_below_drewN | apply below_drew1)⟩⟩
        · rw [if_neg c2] at H
          exact absurd H (by simp)
      · rw [if_neg c1] at H
        have c1b0 : decide (i < (a0.size : Int)) = false := decide_eq_false c1
        clear c1
        by_cases c5 : a0.toList = ([] : List UInt8)
        · rw [if_pos c5] at H
          have c5b0 : (a0.toList == ([] : List UInt8)) = true := beq_iff_eq.mpr c5
          have c5b1 : (a0.toList != ([] : List UInt8)) = false := bne_eq_false_iff_eq.mpr c5
          clear c5
          obtain rfl := Option.some.inj H
          go_wp2
          go_ret
          exact ⟨rfl, by repeat (first | exact HB.out | apply pw_below_drewN | apply below_drew1)⟩
        · rw [if_neg c5] at H
          have c5b0 : (a0.toList == ([] : List UInt8)) = false := beq_eq_false_iff_ne.mpr c5
          have c5b1 : (a0.toList != ([] : List UInt8)) = true := bne_iff_ne.mpr c5
          clear c5
          by_cases c6 : (a0.size : Int) ≤ 32
          · rw [if_pos c6] at H
            have c6b0 : decide ((a0.size : Int) ≤ 32) = true := decide_eq_true c6
            have c6b1 : decide (a0.size ≤ 32) = true := decide_eq_true (by omega)
            clear c6
            replace H := Option.bind_eq_some_iff.mp H
            obtain ⟨t, A2, H⟩ := H
            replace A2 := Aside0.mk A2
            obtain rfl := Option.some.inj H
            go_wp2_with fail
            have HL := ledgers_named.C_new (enc := Value.string) (h1 := fun _ => rfl) ByteArray.empty wr 9 [⟨#[109, 111, 115, 116]⟩, ⟨#[108, 101, 97, 115, 116]⟩, ⟨#[115, 117, 109]⟩, ⟨#[114, 111, 119, 115]⟩, ⟨#[118, 97, 114, 115]⟩, ⟨#[119, 104, 111, 108, 101]⟩, ⟨#[102, 114, 101, 101]⟩, ⟨#[101, 110, 100]⟩] (by decide)
            refine (slices_Contains_string_string.calls k1 _ 8 _ a0 t _ HL (by decide) A2.out).mono ?_
            rintro e w1 ⟨rfl, ⟨nd, rfl⟩⟩
            clear HL
            have HB1 := Aside0.mk (pw_below_drewN (below_alloc HB.out (Obj.cells (([⟨#[109, 111, 115, 116]⟩, ⟨#[108, 101, 97, 115, 116]⟩, ⟨#[115, 117, 109]⟩, ⟨#[114, 111, 119, 115]⟩, ⟨#[118, 97, 114, 115]⟩, ⟨#[119, 104, 111, 108, 101]⟩, ⟨#[102, 114, 101, 101]⟩, ⟨#[101, 110, 100]⟩] : List ByteArray).map Value.string).toArray 9)) nd)
            go_wp2
            go_ret
            exact ⟨rfl, by repeat (first | exact HB1.out | apply pw_below_drewN | apply below_drew1)⟩
          · rw [if_neg c6] at H
            have c6b0 : decide ((a0.size : Int) ≤ 32) = false := decide_eq_false c6
            have c6b1 : decide (a0.size ≤ 32) = false := decide_eq_false (by omega)
            clear c6
            obtain rfl := Option.some.inj H
            go_wp2
            go_ret
            exact ⟨rfl, by repeat (first | exact HB.out | apply pw_below_drewN | apply below_drew1)⟩

end Go.Proofs.Ytgebfcdpbeaknaa.X
