/-
  Texts of ours, packed (wip/merge.py): X74, X26, BookApart, X2, X3.
-/
import Derived.Test.YtgebfcdpbeaknaaGreatDoorM0
import Derived.Test.YtgebfcdpbeaknaaGreatDoorM1
/-! #### X74 -/
section

namespace Go.Proofs.YtgebfcdpbeaknaaGreatDoor.X
open Go.RowKit Go.Proofs.YtgebfcdpbeaknaaGreatDoorW.PrintWords Go.Proofs.YtgebfcdpbeaknaaGreatDoorW.PrintLast Go.Proofs.YtgebfcdpbeaknaaGreatDoorW.PrintMore
attribute [local go_sem] max2_int min2_int max_two min_two max_three min_three max_four min_four   -- for this text's walks alone
set_option linter.unusedVariables false
set_option linter.unusedSimpArgs false

/-! ### assayerlaw01_Book_lookToken: function 47 -/
-- by hand: law01_lookToken.tpl
open Go.Proofs.YtgebfcdpbeaknaaGreatDoor.Bk
def Bk_lookToken.f : Option Unit := some ()
theorem Bk_lookToken.cells {w : World} {g n : Nat} {m : ByteArray} (h : RD w (some ⟨g, 0, none⟩) n m) (k : Nat) (hk : k < n) : w.cell? ⟨g, k * 3, none⟩ = some (.int .u8 0) ∧ w.cell? ⟨g, k * 3 + 1, none⟩ = some (.string m) ∧ w.cell? ⟨g, k * 3 + 2, none⟩ = some (.int .i64 0) := by
  have hg := marks_get m n k [] hk
  rw [List.append_nil] at hg
  obtain ⟨g0, e0, c0⟩ := h _ _ hg.1
  obtain ⟨g1, e1, c1⟩ := h _ _ hg.2.1
  obtain ⟨g2, e2, c2⟩ := h _ _ hg.2.2
  cases e0
  cases e1
  cases e2
  exact ⟨c0, c1, c2⟩
theorem Bk_lookToken.lt {W : World} {b k : Nat} {v : Value} (h : W.cell? ⟨b, k, none⟩ = some v) : b < W.heap.size := by
  rcases Nat.lt_or_ge b W.heap.size with h1 | h1
  · exact h1
  · simp [World.cell?, Array.getElem?_eq_none h1] at h
set_option maxHeartbeats 8000000 in
set_option maxRecDepth 100000 in
theorem Bk_lookToken.calls (w : World) (kb tb : Nat) (n : Int) (cap : Nat) (Aa : Option Addr) (na ca : Nat) (As : Option Addr) (cs : Nat) (Ab : Option Addr) (nb cb : Nat) (Bs : Option Addr) (ds : Nat) (hna : na ≤ 1000000) (hnb : nb ≤ 1000000) (hT : Two w kb tb n cap (.slice Aa na ca) (.slice As (na + 40) cs) (.slice Ab nb cb) (.slice Bs (nb + 40) ds))
    (ha : RD w Aa na ⟨#[35, 49]⟩) (hb : RD w Ab nb ⟨#[35, 50]⟩) (hsa : RD w As (na + 40) ⟨#[35, 49]⟩) (hsb : RD w Bs (nb + 40) ⟨#[35, 50]⟩) (hAa : na = 0 ∨ ∃ g, Aa = some ⟨g, 0, none⟩) (hAb : nb = 0 ∨ ∃ g, Ab = some ⟨g, 0, none⟩) (hAs : ∃ g, As = some ⟨g, 0, none⟩) (hBs : ∃ g, Bs = some ⟨g, 0, none⟩) :
    Calls Tryz.prog 47 #[.pointer (some ⟨kb, 0, none⟩)] w fun e w' => e = .returned (.bool true) ∧ Below w.heap.size w w' := by
  have HT := Aside0.mk hT
  have HA := Aside0.mk ha
  have HB := Aside0.mk hb
  have HSA := Aside0.mk hsa
  have HSB := Aside0.mk hsb
  have hcT := hT.cell
  clear hT ha hb hsa hsb
  obtain ⟨gs, rfl⟩ := hAs
  obtain ⟨gt, rfl⟩ := hBs
  go_enter Tryz.func47, Tryz.ntmps47
  go_wp2
  go_loopw [3] (fun v2 wr => ∃ i : Nat, i ≤ 2 ∧ v2 = .int .i64 (i : Int) ∧ Aside0 (Below w.heap.size w wr))
    (fun v2 _ => 2 - (intOf v2).toNat)
  case atStart => exact ⟨0, by omega, rfl, ⟨Below.refl _ _⟩⟩
  case round =>
    clear hcT
    obtain ⟨i, hi, rfl, HBe⟩ := hrel
    have HTo := Aside0.mk (HT.out.below HBe.out)
    have hcT := HTo.out.cell
    obtain ⟨wo, hwo⟩ : ∃ x, x = wr := ⟨_, rfl⟩
    subst hwo
    match i, hi with
    | 0, _ =>
      have q0 := (HTo.out.at_ 0 _ rfl).1
      have q1 := (HTo.out.at_ 1 _ rfl).1
      have q2 := (HTo.out.at_ 2 _ rfl).1
      have hm : assayerlaw01_isToken.f 0 ⟨#[35, 49]⟩ 0 1 = some true := by decide +kernel
      have hwn : wrap64 ((na : Int) + 40) = (na : Int) + 40 := by unfold wrap64; omega
      have hln : (((na + 40 : Nat) : Int) != (na : Int) + 40) = false := bne_eq_false_iff_eq.mpr (by omega)
      have hln2 : ((na : Int) + 40 != (na : Int) + 40) = false := bne_eq_false_iff_eq.mpr rfl
      try rw [show ((1 : Nat) : Int) = 1 from rfl]
      go_wp2
      go_loopw [5] (fun v5 wq => ∃ k : Nat, k ≤ na + 40 ∧ v5 = .int .i64 (k : Int) ∧ Aside0 (wq.heap[wo.heap.size]? = some (.cells #[.slice Aa na ca, .slice (some ⟨gs, 0, none⟩) (na + 40) cs, .int .i64 1] 63 (0, 0))) ∧ Aside0 (Below w.heap.size w wq))
        (fun v5 _ => na + 40 - (intOf v5).toNat)
      case atStart =>
        exact ⟨0, by omega, rfl, ⟨(MapKept.heap_alloc wo _).1⟩, ⟨HBe.out.alloc HBe.out.size _⟩⟩
      case round =>
        obtain ⟨k, hk, rfl, HQ, HBq⟩ := hrel
        have hbx0 : wr.cell? ⟨wo.heap.size, 0, none⟩ = some (.slice Aa na ca) := by simp [World.cell?, HQ.out]
        have hbx1 : wr.cell? ⟨wo.heap.size, 1, none⟩ = some (.slice (some ⟨gs, 0, none⟩) (na + 40) cs) := by simp [World.cell?, HQ.out]
        have hbx2 : wr.cell? ⟨wo.heap.size, 2, none⟩ = some (.int .i64 1) := by simp [World.cell?, HQ.out]
        clear q0 q1 q2 hcT
        by_cases hlt : k < na + 40
        · have hd0 : decide ((k : Int) < ((na + 40 : Nat) : Int)) = true := decide_eq_true (by omega)
          have hd1 : decide (k < na + 40) = true := decide_eq_true hlt
          have hd5 : decide ((k : Int) < (na : Int) + 40) = true := decide_eq_true (by omega)
          have hd2 : (0 : Int) ≤ (k : Int) ∧ (k : Int) < ((na + 40 : Nat) : Int) := ⟨by omega, by omega⟩
          have hd3 : (k : Int) < (na : Int) + 40 := by omega
          have hw64 : wrap64 ((k : Int) + 1) = (k : Int) + 1 := by unfold wrap64; omega
          have hlg : gs < w.heap.size := Bk_lookToken.lt (Bk_lookToken.cells HSA.out 0 (by omega)).1
          have RDS := HSA.out.move (w' := wr) (fun g hg => by cases hg; exact HBq.out.block gs hlg)
          obtain ⟨y0, y1, y2⟩ := Bk_lookToken.cells RDS k hlt
          by_cases hin : k < na
          · have hi0 : decide ((k : Int) < (na : Int)) = true := decide_eq_true (by omega)
            have hi1 : decide (k < na) = true := decide_eq_true hin
            have hi2 : (0 : Int) ≤ (k : Int) ∧ (k : Int) < (na : Int) := ⟨by omega, by omega⟩
            obtain ⟨g, hgA⟩ : ∃ g, Aa = some ⟨g, 0, none⟩ := hAa.resolve_left (by omega)
            have RDL := HA.out
            rw [hgA] at RDL
            have hlg2 : g < w.heap.size := Bk_lookToken.lt (Bk_lookToken.cells RDL 0 (by omega)).1
            have RDL2 := RDL.move (w' := wr) (fun g' hg => by cases hg; exact HBq.out.block g hlg2)
            obtain ⟨x0, x1, x2⟩ := Bk_lookToken.cells RDL2 k hin
            rw [hgA] at hbx0
            clear hgA
            go_wp2_with fail
            refine start_ (n := 27) (S := fun w' => w'.heap[wo.heap.size]? = some (.cells #[.slice Aa na ca, .slice (some ⟨gs, 0, none⟩) (na + 40) cs, .int .i64 1] 63 (0, 0)) ∧ Below w.heap.size w w' ∧ w'.cell? ⟨wo.heap.size, 0, none⟩ = some (.slice (some ⟨g, 0, none⟩) na ca) ∧ w'.cell? ⟨wo.heap.size, 1, none⟩ = some (.slice (some ⟨gs, 0, none⟩) (na + 40) cs) ∧ w'.cell? ⟨wo.heap.size, 2, none⟩ = some (.int .i64 1) ∧ w'.cell? ⟨gs, k * 3, none⟩ = some (.int .u8 0) ∧ w'.cell? ⟨gs, k * 3 + 1, none⟩ = some (.string ⟨#[35, 49]⟩) ∧ w'.cell? ⟨gs, k * 3 + 2, none⟩ = some (.int .i64 0) ∧ w'.cell? ⟨g, k * 3, none⟩ = some (.int .u8 0) ∧ w'.cell? ⟨g, k * 3 + 1, none⟩ = some (.string ⟨#[35, 49]⟩) ∧ w'.cell? ⟨g, k * 3 + 2, none⟩ = some (.int .i64 0)) (ds := []) #[false, false, false, false, false, false, false, false, false, false, false, false, false, false, false, false, false, false, false, false, false, false, false, false, false, false, false] (by kernel_rfl) rfl rfl ⟨HQ.out, (below_drew HBq.out), hbx0, hbx1, hbx2, y0, y1, y2, x0, x1, x2⟩ (fun hHeld => ?_)
            refine pure_ (i := 0) (N := some 37) (v := ?_) (a' := ?_) #[true, false, false, false, false, false, false, false, false, false, false, false, false, false, false, false, false, false, false, false, false, false, false, false, false, false, false] rfl rfl (by kernel_rfl) (fun _ _ _ h => h) (Or.inl ⟨by rfl, ?_⟩) ?_ ?_
            rotate_left
            · intro w'
              go_simp
              with_reducible rfl
            rotate_left
            · simp only [Act.put, List.setIfInBounds_toArray, List.set_cons_zero, List.set_cons_succ, i64_w, i32_w]
              rfl
            refine pure_ (i := 2) (N := some 39) (v := ?_) (a' := ?_) #[true, false, true, false, false, false, false, false, false, false, false, false, false, false, false, false, false, false, false, false, false, false, false, false, false, false, false] rfl rfl (by kernel_rfl) (fun _ _ _ h => h) (Or.inl ⟨by rfl, ?_⟩) ?_ ?_
            rotate_left
            · intro w'
              go_simp
              with_reducible rfl
            rotate_left
            · simp only [Act.put, List.setIfInBounds_toArray, List.set_cons_zero, List.set_cons_succ, i64_w, i32_w]
              rfl
            refine pure_ (i := 5) (N := some 42) (v := ?_) (a' := ?_) #[true, false, true, false, false, true, false, false, false, false, false, false, false, false, false, false, false, false, false, false, false, false, false, false, false, false, false] rfl rfl (by kernel_rfl) (fun _ _ _ h => h) (Or.inl ⟨by rfl, ?_⟩) ?_ ?_
            rotate_left
            · intro w'
              go_simp
              with_reducible rfl
            rotate_left
            · simp only [Act.put, List.setIfInBounds_toArray, List.set_cons_zero, List.set_cons_succ, i64_w, i32_w]
              rfl
            refine take_ (i := 1) (N := some 38) (v := ?_) (a' := ?_) #[true, true, true, false, false, true, false, false, false, false, false, false, false, false, false, false, false, false, false, false, false, false, false, false, false, false, false] rfl rfl (by kernel_rfl) (fun _ _ _ h => h) (Or.inl ⟨by rfl, ?_⟩) hHeld ?_ ?_
            rotate_left
            · rintro w' ⟨s0, s1, s2, s3, s4, s5, s6, s7, s8, s9, s10⟩
              go_simp
              with_reducible rfl
            rotate_left
            · simp only [Act.put, List.setIfInBounds_toArray, List.set_cons_zero, List.set_cons_succ, i64_w, i32_w]
              rfl
            refine pure_ (i := 3) (N := some 40) (v := ?_) (a' := ?_) #[true, true, true, true, false, true, false, false, false, false, false, false, false, false, false, false, false, false, false, false, false, false, false, false, false, false, false] rfl rfl (by kernel_rfl) (fun _ _ _ h => h) (Or.inl ⟨by rfl, ?_⟩) ?_ ?_
            rotate_left
            · intro w'
              go_simp
              with_reducible rfl
            rotate_left
            · simp only [Act.put, List.setIfInBounds_toArray, List.set_cons_zero, List.set_cons_succ, i64_w, i32_w]
              rfl
            refine take_ (i := 4) (N := some 41) (v := ?_) (a' := ?_) #[true, true, true, true, true, true, false, false, false, false, false, false, false, false, false, false, false, false, false, false, false, false, false, false, false, false, false] rfl rfl (by kernel_rfl) (fun _ _ _ h => h) (Or.inl ⟨by rfl, ?_⟩) hHeld ?_ ?_
            rotate_left
            · rintro w' ⟨s0, s1, s2, s3, s4, s5, s6, s7, s8, s9, s10⟩
              go_simp
              with_reducible rfl
            rotate_left
            · simp only [Act.put, List.setIfInBounds_toArray, List.set_cons_zero, List.set_cons_succ, i64_w, i32_w]
              rfl
            refine take_ (i := 6) (N := some 43) (v := ?_) (a' := ?_) #[true, true, true, true, true, true, true, false, false, false, false, false, false, false, false, false, false, false, false, false, false, false, false, false, false, false, false] rfl rfl (by kernel_rfl) (fun _ _ _ h => h) (Or.inl ⟨by rfl, ?_⟩) hHeld ?_ ?_
            rotate_left
            · rintro w' ⟨s0, s1, s2, s3, s4, s5, s6, s7, s8, s9, s10⟩
              go_simp
              with_reducible rfl
            rotate_left
            · simp only [Act.put, List.setIfInBounds_toArray, List.set_cons_zero, List.set_cons_succ, i64_w, i32_w]
              rfl
            refine one_ (i := 7) (N := some 44) #[true, true, true, true, true, true, true, true, false, false, false, false, false, false, false, false, false, false, false, false, false, false, false, false, false, false, false] rfl rfl (by kernel_rfl) (by decide) (fun K hK => ?_)
            refine goes_ Tryz.func79 (by kernel_rfl) rfl #[.agg #[.int .u8 0, .string ⟨#[35, 49]⟩, .int .i64 0], .int .i64 1] (by rfl) rfl rfl (by simp only [List.map_toArray, List.map_cons, List.map_nil]; rfl) ?_
            with_reducible refine (assayerlaw01_isToken.calls 0 ⟨#[35, 49]⟩ 0 1 true _ hm).mono ?_
            rintro e w3 ⟨rfl, hb⟩
            refine ⟨_, rfl, ?_⟩
            refine hK.out _ _ ⟨((hb.block _ (Array.getElem?_eq_some_iff.1 hHeld.1).1).trans hHeld.1), (below_step hHeld.2.1 hb), ((hb.cell (p := ⟨wo.heap.size, 0, none⟩) (Bk_lookToken.lt hHeld.2.2.1)).trans hHeld.2.2.1), ((hb.cell (p := ⟨wo.heap.size, 1, none⟩) (Bk_lookToken.lt hHeld.2.2.2.1)).trans hHeld.2.2.2.1), ((hb.cell (p := ⟨wo.heap.size, 2, none⟩) (Bk_lookToken.lt hHeld.2.2.2.2.1)).trans hHeld.2.2.2.2.1), ((hb.cell (p := ⟨gs, k * 3, none⟩) (Bk_lookToken.lt hHeld.2.2.2.2.2.1)).trans hHeld.2.2.2.2.2.1), ((hb.cell (p := ⟨gs, k * 3 + 1, none⟩) (Bk_lookToken.lt hHeld.2.2.2.2.2.2.1)).trans hHeld.2.2.2.2.2.2.1), ((hb.cell (p := ⟨gs, k * 3 + 2, none⟩) (Bk_lookToken.lt hHeld.2.2.2.2.2.2.2.1)).trans hHeld.2.2.2.2.2.2.2.1), ((hb.cell (p := ⟨g, k * 3, none⟩) (Bk_lookToken.lt hHeld.2.2.2.2.2.2.2.2.1)).trans hHeld.2.2.2.2.2.2.2.2.1), ((hb.cell (p := ⟨g, k * 3 + 1, none⟩) (Bk_lookToken.lt hHeld.2.2.2.2.2.2.2.2.2.1)).trans hHeld.2.2.2.2.2.2.2.2.2.1), ((hb.cell (p := ⟨g, k * 3 + 2, none⟩) (Bk_lookToken.lt hHeld.2.2.2.2.2.2.2.2.2.2)).trans hHeld.2.2.2.2.2.2.2.2.2.2)⟩ (fun hHeld => ?_)
            clear hK K
            refine norm_ (a' := ?_) ?_ ?_
            rotate_left
            · show Act.put _ (some 44) _ = _
              simp only [Act.put, List.setIfInBounds_toArray, List.set_cons_zero, List.set_cons_succ, i64_w, i32_w]
              rfl
            refine pure_ (i := 8) (N := some 45) (v := ?_) (a' := ?_) #[true, true, true, true, true, true, true, true, true, false, false, false, false, false, false, false, false, false, false, false, false, false, false, false, false, false, false] rfl rfl (by kernel_rfl) (fun _ _ _ h => h) (Or.inl ⟨by rfl, ?_⟩) ?_ ?_
            rotate_left
            · intro w'
              go_simp
              with_reducible rfl
            rotate_left
            · simp only [Act.put, List.setIfInBounds_toArray, List.set_cons_zero, List.set_cons_succ, i64_w, i32_w]
              rfl
            refine pure_ (i := 9) (N := some 46) (v := ?_) (a' := ?_) #[true, true, true, true, true, true, true, true, true, true, false, false, false, false, false, false, false, false, false, false, false, false, false, false, false, false, false] rfl rfl (by kernel_rfl) (fun _ _ _ h => h) (Or.inl ⟨by rfl, ?_⟩) ?_ ?_
            rotate_left
            · intro w'
              go_simp
              with_reducible rfl
            rotate_left
            · simp only [Act.put, List.setIfInBounds_toArray, List.set_cons_zero, List.set_cons_succ, i64_w, i32_w]
              rfl
            refine pure_ (i := 10) (N := some 47) (v := ?_) (a' := ?_) #[true, true, true, true, true, true, true, true, true, true, true, false, false, false, false, false, false, false, false, false, false, false, false, false, false, false, false] rfl rfl (by kernel_rfl) (fun _ _ _ h => h) (Or.inl ⟨by rfl, ?_⟩) ?_ ?_
            rotate_left
            · intro w'
              go_simp
              with_reducible rfl
            rotate_left
            · simp only [Act.put, List.setIfInBounds_toArray, List.set_cons_zero, List.set_cons_succ, i64_w, i32_w]
              rfl
            refine pure_ (i := 11) (N := some 48) (v := ?_) (a' := ?_) #[true, true, true, true, true, true, true, true, true, true, true, true, false, false, false, false, false, false, false, false, false, false, false, false, false, false, false] rfl rfl (by kernel_rfl) (fun _ _ _ h => h) (Or.inl ⟨by rfl, ?_⟩) ?_ ?_
            rotate_left
            · intro w'
              go_simp
              with_reducible rfl
            rotate_left
            · simp only [Act.put, List.setIfInBounds_toArray, List.set_cons_zero, List.set_cons_succ, i64_w, i32_w]
              rfl
            refine take_ (i := 12) (N := some 49) (v := ?_) (a' := ?_) #[true, true, true, true, true, true, true, true, true, true, true, true, true, false, false, false, false, false, false, false, false, false, false, false, false, false, false] rfl rfl (by kernel_rfl) (fun _ _ _ h => h) (Or.inl ⟨by rfl, ?_⟩) hHeld ?_ ?_
            rotate_left
            · rintro w' ⟨s0, s1, s2, s3, s4, s5, s6, s7, s8, s9, s10⟩
              go_simp
              with_reducible rfl
            rotate_left
            · simp only [Act.put, List.setIfInBounds_toArray, List.set_cons_zero, List.set_cons_succ, i64_w, i32_w]
              rfl
            refine pure_ (i := 13) (N := some 50) (v := ?_) (a' := ?_) #[true, true, true, true, true, true, true, true, true, true, true, true, true, true, false, false, false, false, false, false, false, false, false, false, false, false, false] rfl rfl (by kernel_rfl) (fun _ _ _ h => h) (Or.inl ⟨by rfl, ?_⟩) ?_ ?_
            rotate_left
            · intro w'
              go_simp
              with_reducible rfl
            rotate_left
            · simp only [Act.put, List.setIfInBounds_toArray, List.set_cons_zero, List.set_cons_succ, i64_w, i32_w]
              rfl
            refine pure_ (i := 14) (N := some 51) (v := ?_) (a' := ?_) #[true, true, true, true, true, true, true, true, true, true, true, true, true, true, true, false, false, false, false, false, false, false, false, false, false, false, false] rfl rfl (by kernel_rfl) (fun _ _ _ h => h) (Or.inl ⟨by rfl, ?_⟩) ?_ ?_
            rotate_left
            · intro w'
              go_simp
              with_reducible rfl
            rotate_left
            · simp only [Act.put, List.setIfInBounds_toArray, List.set_cons_zero, List.set_cons_succ, i64_w, i32_w]
              rfl
            refine pure_ (i := 15) (N := some 52) (v := ?_) (a' := ?_) #[true, true, true, true, true, true, true, true, true, true, true, true, true, true, true, true, false, false, false, false, false, false, false, false, false, false, false] rfl rfl (by kernel_rfl) (fun _ _ _ h => h) (Or.inl ⟨by rfl, ?_⟩) ?_ ?_
            rotate_left
            · intro w'
              go_simp
              with_reducible rfl
            rotate_left
            · simp only [Act.put, List.setIfInBounds_toArray, List.set_cons_zero, List.set_cons_succ, i64_w, i32_w]
              rfl
            refine pure_ (i := 16) (N := some 53) (v := ?_) (a' := ?_) #[true, true, true, true, true, true, true, true, true, true, true, true, true, true, true, true, true, false, false, false, false, false, false, false, false, false, false] rfl rfl (by kernel_rfl) (fun _ _ _ h => h) (Or.inl ⟨by rfl, ?_⟩) ?_ ?_
            rotate_left
            · intro w'
              go_simp
              with_reducible rfl
            rotate_left
            · simp only [Act.put, List.setIfInBounds_toArray, List.set_cons_zero, List.set_cons_succ, i64_w, i32_w]
              rfl
            refine pure_ (i := 18) (N := some 55) (v := ?_) (a' := ?_) #[true, true, true, true, true, true, true, true, true, true, true, true, true, true, true, true, true, false, true, false, false, false, false, false, false, false, false] rfl rfl (by kernel_rfl) (fun _ _ _ h => h) (Or.inl ⟨by rfl, ?_⟩) ?_ ?_
            rotate_left
            · intro w'
              go_simp
              with_reducible rfl
            rotate_left
            · simp only [Act.put, List.setIfInBounds_toArray, List.set_cons_zero, List.set_cons_succ, i64_w, i32_w]
              rfl
            refine pure_ (i := 21) (N := some 58) (v := ?_) (a' := ?_) #[true, true, true, true, true, true, true, true, true, true, true, true, true, true, true, true, true, false, true, false, false, true, false, false, false, false, false] rfl rfl (by kernel_rfl) (fun _ _ _ h => h) (Or.inl ⟨by rfl, ?_⟩) ?_ ?_
            rotate_left
            · intro w'
              go_simp
              with_reducible rfl
            rotate_left
            · simp only [Act.put, List.setIfInBounds_toArray, List.set_cons_zero, List.set_cons_succ, i64_w, i32_w]
              rfl
            refine take_ (i := 17) (N := some 54) (v := ?_) (a' := ?_) #[true, true, true, true, true, true, true, true, true, true, true, true, true, true, true, true, true, true, true, false, false, true, false, false, false, false, false] rfl rfl (by kernel_rfl) (fun _ _ _ h => h) (Or.inl ⟨by rfl, ?_⟩) hHeld ?_ ?_
            rotate_left
            · rintro w' ⟨s0, s1, s2, s3, s4, s5, s6, s7, s8, s9, s10⟩
              go_simp
              with_reducible rfl
            rotate_left
            · simp only [Act.put, List.setIfInBounds_toArray, List.set_cons_zero, List.set_cons_succ, i64_w, i32_w]
              rfl
            refine pure_ (i := 19) (N := some 56) (v := ?_) (a' := ?_) #[true, true, true, true, true, true, true, true, true, true, true, true, true, true, true, true, true, true, true, true, false, true, false, false, false, false, false] rfl rfl (by kernel_rfl) (fun _ _ _ h => h) (Or.inl ⟨by rfl, ?_⟩) ?_ ?_
            rotate_left
            · intro w'
              go_simp
              with_reducible rfl
            rotate_left
            · simp only [Act.put, List.setIfInBounds_toArray, List.set_cons_zero, List.set_cons_succ, i64_w, i32_w]
              rfl
            refine take_ (i := 20) (N := some 57) (v := ?_) (a' := ?_) #[true, true, true, true, true, true, true, true, true, true, true, true, true, true, true, true, true, true, true, true, true, true, false, false, false, false, false] rfl rfl (by kernel_rfl) (fun _ _ _ h => h) (Or.inl ⟨by rfl, ?_⟩) hHeld ?_ ?_
            rotate_left
            · rintro w' ⟨s0, s1, s2, s3, s4, s5, s6, s7, s8, s9, s10⟩
              go_simp
              with_reducible rfl
            rotate_left
            · simp only [Act.put, List.setIfInBounds_toArray, List.set_cons_zero, List.set_cons_succ, i64_w, i32_w]
              rfl
            refine take_ (i := 22) (N := some 59) (v := ?_) (a' := ?_) #[true, true, true, true, true, true, true, true, true, true, true, true, true, true, true, true, true, true, true, true, true, true, true, false, false, false, false] rfl rfl (by kernel_rfl) (fun _ _ _ h => h) (Or.inl ⟨by rfl, ?_⟩) hHeld ?_ ?_
            rotate_left
            · rintro w' ⟨s0, s1, s2, s3, s4, s5, s6, s7, s8, s9, s10⟩
              go_simp
              with_reducible rfl
            rotate_left
            · simp only [Act.put, List.setIfInBounds_toArray, List.set_cons_zero, List.set_cons_succ, i64_w, i32_w]
              rfl
            refine one_ (i := 23) (N := some 60) #[true, true, true, true, true, true, true, true, true, true, true, true, true, true, true, true, true, true, true, true, true, true, true, true, false, false, false] rfl rfl (by kernel_rfl) (by decide) (fun K hK => ?_)
            refine goes_ Tryz.func79 (by kernel_rfl) rfl #[.agg #[.int .u8 0, .string ⟨#[35, 49]⟩, .int .i64 0], .int .i64 1] (by rfl) rfl rfl (by simp only [List.map_toArray, List.map_cons, List.map_nil]; rfl) ?_
            with_reducible refine (assayerlaw01_isToken.calls 0 ⟨#[35, 49]⟩ 0 1 true _ hm).mono ?_
            rintro e w5 ⟨rfl, hb⟩
            refine ⟨_, rfl, ?_⟩
            refine hK.out _ _ ⟨((hb.block _ (Array.getElem?_eq_some_iff.1 hHeld.1).1).trans hHeld.1), (below_step hHeld.2.1 hb), ((hb.cell (p := ⟨wo.heap.size, 0, none⟩) (Bk_lookToken.lt hHeld.2.2.1)).trans hHeld.2.2.1), ((hb.cell (p := ⟨wo.heap.size, 1, none⟩) (Bk_lookToken.lt hHeld.2.2.2.1)).trans hHeld.2.2.2.1), ((hb.cell (p := ⟨wo.heap.size, 2, none⟩) (Bk_lookToken.lt hHeld.2.2.2.2.1)).trans hHeld.2.2.2.2.1), ((hb.cell (p := ⟨gs, k * 3, none⟩) (Bk_lookToken.lt hHeld.2.2.2.2.2.1)).trans hHeld.2.2.2.2.2.1), ((hb.cell (p := ⟨gs, k * 3 + 1, none⟩) (Bk_lookToken.lt hHeld.2.2.2.2.2.2.1)).trans hHeld.2.2.2.2.2.2.1), ((hb.cell (p := ⟨gs, k * 3 + 2, none⟩) (Bk_lookToken.lt hHeld.2.2.2.2.2.2.2.1)).trans hHeld.2.2.2.2.2.2.2.1), ((hb.cell (p := ⟨g, k * 3, none⟩) (Bk_lookToken.lt hHeld.2.2.2.2.2.2.2.2.1)).trans hHeld.2.2.2.2.2.2.2.2.1), ((hb.cell (p := ⟨g, k * 3 + 1, none⟩) (Bk_lookToken.lt hHeld.2.2.2.2.2.2.2.2.2.1)).trans hHeld.2.2.2.2.2.2.2.2.2.1), ((hb.cell (p := ⟨g, k * 3 + 2, none⟩) (Bk_lookToken.lt hHeld.2.2.2.2.2.2.2.2.2.2)).trans hHeld.2.2.2.2.2.2.2.2.2.2)⟩ (fun hHeld => ?_)
            clear hK K
            refine norm_ (a' := ?_) ?_ ?_
            rotate_left
            · show Act.put _ (some 60) _ = _
              simp only [Act.put, List.setIfInBounds_toArray, List.set_cons_zero, List.set_cons_succ, i64_w, i32_w]
              rfl
            refine pure_ (i := 24) (N := some 61) (v := ?_) (a' := ?_) #[true, true, true, true, true, true, true, true, true, true, true, true, true, true, true, true, true, true, true, true, true, true, true, true, true, false, false] rfl rfl (by kernel_rfl) (fun _ _ _ h => h) (Or.inl ⟨by rfl, ?_⟩) ?_ ?_
            rotate_left
            · intro w'
              go_simp
              with_reducible rfl
            rotate_left
            · simp only [Act.put, List.setIfInBounds_toArray, List.set_cons_zero, List.set_cons_succ, i64_w, i32_w]
              rfl
            refine pure_ (i := 25) (N := some 62) (v := ?_) (a' := ?_) #[true, true, true, true, true, true, true, true, true, true, true, true, true, true, true, true, true, true, true, true, true, true, true, true, true, true, false] rfl rfl (by kernel_rfl) (fun _ _ _ h => h) (Or.inl ⟨by rfl, ?_⟩) ?_ ?_
            rotate_left
            · intro w'
              go_simp
              with_reducible rfl
            rotate_left
            · simp only [Act.put, List.setIfInBounds_toArray, List.set_cons_zero, List.set_cons_succ, i64_w, i32_w]
              rfl
            refine pure_ (i := 26) (N := some 63) (v := ?_) (a' := ?_) #[true, true, true, true, true, true, true, true, true, true, true, true, true, true, true, true, true, true, true, true, true, true, true, true, true, true, true] rfl rfl (by kernel_rfl) (fun _ _ _ h => h) (Or.inl ⟨by rfl, ?_⟩) ?_ ?_
            rotate_left
            · intro w'
              go_simp
              with_reducible rfl
            rotate_left
            · simp only [Act.put, List.setIfInBounds_toArray, List.set_cons_zero, List.set_cons_succ, i64_w, i32_w]
              rfl
            refine done_ (by kernel_rfl) ?_
            go_wp2
            go_roundw
            case rel =>
              exact ⟨k + 1, by omega, rfl, ⟨hHeld.1⟩, ⟨hHeld.2.1⟩⟩
            case measure => simp only [intOf]; omega
          · have hi0 : decide ((k : Int) < (na : Int)) = false := decide_eq_false (by omega)
            have hi1 : decide (k < na) = false := decide_eq_false hin
            go_wp2_with fail
            refine start_ (n := 27) (S := fun w' => w'.heap[wo.heap.size]? = some (.cells #[.slice Aa na ca, .slice (some ⟨gs, 0, none⟩) (na + 40) cs, .int .i64 1] 63 (0, 0)) ∧ Below w.heap.size w w' ∧ w'.cell? ⟨wo.heap.size, 0, none⟩ = some (.slice Aa na ca) ∧ w'.cell? ⟨wo.heap.size, 1, none⟩ = some (.slice (some ⟨gs, 0, none⟩) (na + 40) cs) ∧ w'.cell? ⟨wo.heap.size, 2, none⟩ = some (.int .i64 1) ∧ w'.cell? ⟨gs, k * 3, none⟩ = some (.int .u8 0) ∧ w'.cell? ⟨gs, k * 3 + 1, none⟩ = some (.string ⟨#[35, 49]⟩) ∧ w'.cell? ⟨gs, k * 3 + 2, none⟩ = some (.int .i64 0)) (ds := []) #[false, false, false, false, false, false, false, false, false, false, false, false, false, false, false, false, false, false, false, false, false, false, false, false, false, false, false] (by kernel_rfl) rfl rfl ⟨HQ.out, (below_drew HBq.out), hbx0, hbx1, hbx2, y0, y1, y2⟩ (fun hHeld => ?_)
            refine pure_ (i := 0) (N := some 37) (v := ?_) (a' := ?_) #[true, false, false, false, false, false, false, false, false, false, false, false, false, false, false, false, false, false, false, false, false, false, false, false, false, false, false] rfl rfl (by kernel_rfl) (fun _ _ _ h => h) (Or.inl ⟨by rfl, ?_⟩) ?_ ?_
            rotate_left
            · intro w'
              go_simp
              with_reducible rfl
            rotate_left
            · simp only [Act.put, List.setIfInBounds_toArray, List.set_cons_zero, List.set_cons_succ, i64_w, i32_w]
              rfl
            refine pure_ (i := 2) (N := some 39) (v := ?_) (a' := ?_) #[true, false, true, false, false, false, false, false, false, false, false, false, false, false, false, false, false, false, false, false, false, false, false, false, false, false, false] rfl rfl (by kernel_rfl) (fun _ _ _ h => h) (Or.inl ⟨by rfl, ?_⟩) ?_ ?_
            rotate_left
            · intro w'
              go_simp
              with_reducible rfl
            rotate_left
            · simp only [Act.put, List.setIfInBounds_toArray, List.set_cons_zero, List.set_cons_succ, i64_w, i32_w]
              rfl
            refine pure_ (i := 5) (N := some 42) (v := ?_) (a' := ?_) #[true, false, true, false, false, true, false, false, false, false, false, false, false, false, false, false, false, false, false, false, false, false, false, false, false, false, false] rfl rfl (by kernel_rfl) (fun _ _ _ h => h) (Or.inl ⟨by rfl, ?_⟩) ?_ ?_
            rotate_left
            · intro w'
              go_simp
              with_reducible rfl
            rotate_left
            · simp only [Act.put, List.setIfInBounds_toArray, List.set_cons_zero, List.set_cons_succ, i64_w, i32_w]
              rfl
            refine take_ (i := 1) (N := some 38) (v := ?_) (a' := ?_) #[true, true, true, false, false, true, false, false, false, false, false, false, false, false, false, false, false, false, false, false, false, false, false, false, false, false, false] rfl rfl (by kernel_rfl) (fun _ _ _ h => h) (Or.inl ⟨by rfl, ?_⟩) hHeld ?_ ?_
            rotate_left
            · rintro w' ⟨s0, s1, s2, s3, s4, s5, s6, s7⟩
              go_simp
              with_reducible rfl
            rotate_left
            · simp only [Act.put, List.setIfInBounds_toArray, List.set_cons_zero, List.set_cons_succ, i64_w, i32_w]
              rfl
            refine pure_ (i := 3) (N := some 40) (v := ?_) (a' := ?_) #[true, true, true, true, false, true, false, false, false, false, false, false, false, false, false, false, false, false, false, false, false, false, false, false, false, false, false] rfl rfl (by kernel_rfl) (fun _ _ _ h => h) (Or.inl ⟨by rfl, ?_⟩) ?_ ?_
            rotate_left
            · intro w'
              go_simp
              with_reducible rfl
            rotate_left
            · simp only [Act.put, List.setIfInBounds_toArray, List.set_cons_zero, List.set_cons_succ, i64_w, i32_w]
              rfl
            refine take_ (i := 4) (N := some 41) (v := ?_) (a' := ?_) #[true, true, true, true, true, true, false, false, false, false, false, false, false, false, false, false, false, false, false, false, false, false, false, false, false, false, false] rfl rfl (by kernel_rfl) (fun _ _ _ h => h) (Or.inl ⟨by rfl, ?_⟩) hHeld ?_ ?_
            rotate_left
            · rintro w' ⟨s0, s1, s2, s3, s4, s5, s6, s7⟩
              go_simp
              with_reducible rfl
            rotate_left
            · simp only [Act.put, List.setIfInBounds_toArray, List.set_cons_zero, List.set_cons_succ, i64_w, i32_w]
              rfl
            refine take_ (i := 6) (N := some 43) (v := ?_) (a' := ?_) #[true, true, true, true, true, true, true, false, false, false, false, false, false, false, false, false, false, false, false, false, false, false, false, false, false, false, false] rfl rfl (by kernel_rfl) (fun _ _ _ h => h) (Or.inl ⟨by rfl, ?_⟩) hHeld ?_ ?_
            rotate_left
            · rintro w' ⟨s0, s1, s2, s3, s4, s5, s6, s7⟩
              go_simp
              with_reducible rfl
            rotate_left
            · simp only [Act.put, List.setIfInBounds_toArray, List.set_cons_zero, List.set_cons_succ, i64_w, i32_w]
              rfl
            refine one_ (i := 7) (N := some 44) #[true, true, true, true, true, true, true, true, false, false, false, false, false, false, false, false, false, false, false, false, false, false, false, false, false, false, false] rfl rfl (by kernel_rfl) (by decide) (fun K hK => ?_)
            refine goes_ Tryz.func79 (by kernel_rfl) rfl #[.agg #[.int .u8 0, .string ⟨#[35, 49]⟩, .int .i64 0], .int .i64 1] (by rfl) rfl rfl (by simp only [List.map_toArray, List.map_cons, List.map_nil]; rfl) ?_
            with_reducible refine (assayerlaw01_isToken.calls 0 ⟨#[35, 49]⟩ 0 1 true _ hm).mono ?_
            rintro e w3 ⟨rfl, hb⟩
            refine ⟨_, rfl, ?_⟩
            refine hK.out _ _ ⟨((hb.block _ (Array.getElem?_eq_some_iff.1 hHeld.1).1).trans hHeld.1), (below_step hHeld.2.1 hb), ((hb.cell (p := ⟨wo.heap.size, 0, none⟩) (Bk_lookToken.lt hHeld.2.2.1)).trans hHeld.2.2.1), ((hb.cell (p := ⟨wo.heap.size, 1, none⟩) (Bk_lookToken.lt hHeld.2.2.2.1)).trans hHeld.2.2.2.1), ((hb.cell (p := ⟨wo.heap.size, 2, none⟩) (Bk_lookToken.lt hHeld.2.2.2.2.1)).trans hHeld.2.2.2.2.1), ((hb.cell (p := ⟨gs, k * 3, none⟩) (Bk_lookToken.lt hHeld.2.2.2.2.2.1)).trans hHeld.2.2.2.2.2.1), ((hb.cell (p := ⟨gs, k * 3 + 1, none⟩) (Bk_lookToken.lt hHeld.2.2.2.2.2.2.1)).trans hHeld.2.2.2.2.2.2.1), ((hb.cell (p := ⟨gs, k * 3 + 2, none⟩) (Bk_lookToken.lt hHeld.2.2.2.2.2.2.2)).trans hHeld.2.2.2.2.2.2.2)⟩ (fun hHeld => ?_)
            clear hK K
            refine norm_ (a' := ?_) ?_ ?_
            rotate_left
            · show Act.put _ (some 44) _ = _
              simp only [Act.put, List.setIfInBounds_toArray, List.set_cons_zero, List.set_cons_succ, i64_w, i32_w]
              rfl
            refine pure_ (i := 8) (N := some 45) (v := ?_) (a' := ?_) #[true, true, true, true, true, true, true, true, true, false, false, false, false, false, false, false, false, false, false, false, false, false, false, false, false, false, false] rfl rfl (by kernel_rfl) (fun _ _ _ h => h) (Or.inl ⟨by rfl, ?_⟩) ?_ ?_
            rotate_left
            · intro w'
              go_simp
              with_reducible rfl
            rotate_left
            · simp only [Act.put, List.setIfInBounds_toArray, List.set_cons_zero, List.set_cons_succ, i64_w, i32_w]
              rfl
            refine pure_ (i := 9) (N := some 46) (v := ?_) (a' := ?_) #[true, true, true, true, true, true, true, true, true, true, false, false, false, false, false, false, false, false, false, false, false, false, false, false, false, false, false] rfl rfl (by kernel_rfl) (fun _ _ _ h => h) (Or.inl ⟨by rfl, ?_⟩) ?_ ?_
            rotate_left
            · intro w'
              go_simp
              with_reducible rfl
            rotate_left
            · simp only [Act.put, List.setIfInBounds_toArray, List.set_cons_zero, List.set_cons_succ, i64_w, i32_w]
              rfl
            refine pure_ (i := 10) (N := some 47) (v := ?_) (a' := ?_) #[true, true, true, true, true, true, true, true, true, true, true, false, false, false, false, false, false, false, false, false, false, false, false, false, false, false, false] rfl rfl (by kernel_rfl) (fun _ _ _ h => h) (Or.inl ⟨by rfl, ?_⟩) ?_ ?_
            rotate_left
            · intro w'
              go_simp
              with_reducible rfl
            rotate_left
            · simp only [Act.put, List.setIfInBounds_toArray, List.set_cons_zero, List.set_cons_succ, i64_w, i32_w]
              rfl
            refine pure_ (i := 11) (N := some 48) (v := ?_) (a' := ?_) #[true, true, true, true, true, true, true, true, true, true, true, true, false, false, false, false, false, false, false, false, false, false, false, false, false, false, false] rfl rfl (by kernel_rfl) (fun _ _ _ h => h) (Or.inl ⟨by rfl, ?_⟩) ?_ ?_
            rotate_left
            · intro w'
              go_simp
              with_reducible rfl
            rotate_left
            · simp only [Act.put, List.setIfInBounds_toArray, List.set_cons_zero, List.set_cons_succ, i64_w, i32_w]
              rfl
            refine take_ (i := 12) (N := some 49) (v := ?_) (a' := ?_) #[true, true, true, true, true, true, true, true, true, true, true, true, true, false, false, false, false, false, false, false, false, false, false, false, false, false, false] rfl rfl (by kernel_rfl) (fun _ _ _ h => h) (Or.inl ⟨by rfl, ?_⟩) hHeld ?_ ?_
            rotate_left
            · rintro w' ⟨s0, s1, s2, s3, s4, s5, s6, s7⟩
              go_simp
              with_reducible rfl
            rotate_left
            · simp only [Act.put, List.setIfInBounds_toArray, List.set_cons_zero, List.set_cons_succ, i64_w, i32_w]
              rfl
            refine pure_ (i := 13) (N := some 50) (v := ?_) (a' := ?_) #[true, true, true, true, true, true, true, true, true, true, true, true, true, true, false, false, false, false, false, false, false, false, false, false, false, false, false] rfl rfl (by kernel_rfl) (fun _ _ _ h => h) (Or.inl ⟨by rfl, ?_⟩) ?_ ?_
            rotate_left
            · intro w'
              go_simp
              with_reducible rfl
            rotate_left
            · simp only [Act.put, List.setIfInBounds_toArray, List.set_cons_zero, List.set_cons_succ, i64_w, i32_w]
              rfl
            refine pure_ (i := 14) (N := some 51) (v := ?_) (a' := ?_) #[true, true, true, true, true, true, true, true, true, true, true, true, true, true, true, false, false, false, false, false, false, false, false, false, false, false, false] rfl rfl (by kernel_rfl) (fun _ _ _ h => h) (Or.inl ⟨by rfl, ?_⟩) ?_ ?_
            rotate_left
            · intro w'
              go_simp
              with_reducible rfl
            rotate_left
            · simp only [Act.put, List.setIfInBounds_toArray, List.set_cons_zero, List.set_cons_succ, i64_w, i32_w]
              rfl
            refine pure_ (i := 15) (N := some 52) (v := ?_) (a' := ?_) #[true, true, true, true, true, true, true, true, true, true, true, true, true, true, true, true, false, false, false, false, false, false, false, false, false, false, false] rfl rfl (by kernel_rfl) (fun _ _ _ h => h) (Or.inl ⟨by rfl, ?_⟩) ?_ ?_
            rotate_left
            · intro w'
              go_simp
              with_reducible rfl
            rotate_left
            · simp only [Act.put, List.setIfInBounds_toArray, List.set_cons_zero, List.set_cons_succ, i64_w, i32_w]
              rfl
            refine pure_ (i := 16) (N := some 53) (v := undef) (a' := ?_) #[true, true, true, true, true, true, true, true, true, true, true, true, true, true, true, true, true, false, false, false, false, false, false, false, false, false, false] rfl rfl (by kernel_rfl) (fun _ _ _ h => h) (Or.inr ⟨by rfl, rfl⟩) ?_ ?_
            rotate_left
            · simp only [Act.put, List.setIfInBounds_toArray, List.set_cons_zero, List.set_cons_succ, i64_w, i32_w]
              rfl
            refine pure_ (i := 17) (N := some 54) (v := undef) (a' := ?_) #[true, true, true, true, true, true, true, true, true, true, true, true, true, true, true, true, true, true, false, false, false, false, false, false, false, false, false] rfl rfl (by kernel_rfl) (fun _ _ _ h => h) (Or.inr ⟨by rfl, rfl⟩) ?_ ?_
            rotate_left
            · simp only [Act.put, List.setIfInBounds_toArray, List.set_cons_zero, List.set_cons_succ, i64_w, i32_w]
              rfl
            refine pure_ (i := 18) (N := some 55) (v := undef) (a' := ?_) #[true, true, true, true, true, true, true, true, true, true, true, true, true, true, true, true, true, true, true, false, false, false, false, false, false, false, false] rfl rfl (by kernel_rfl) (fun _ _ _ h => h) (Or.inr ⟨by rfl, rfl⟩) ?_ ?_
            rotate_left
            · simp only [Act.put, List.setIfInBounds_toArray, List.set_cons_zero, List.set_cons_succ, i64_w, i32_w]
              rfl
            refine pure_ (i := 19) (N := some 56) (v := undef) (a' := ?_) #[true, true, true, true, true, true, true, true, true, true, true, true, true, true, true, true, true, true, true, true, false, false, false, false, false, false, false] rfl rfl (by kernel_rfl) (fun _ _ _ h => h) (Or.inr ⟨by rfl, rfl⟩) ?_ ?_
            rotate_left
            · simp only [Act.put, List.setIfInBounds_toArray, List.set_cons_zero, List.set_cons_succ, i64_w, i32_w]
              rfl
            refine pure_ (i := 20) (N := some 57) (v := undef) (a' := ?_) #[true, true, true, true, true, true, true, true, true, true, true, true, true, true, true, true, true, true, true, true, true, false, false, false, false, false, false] rfl rfl (by kernel_rfl) (fun _ _ _ h => h) (Or.inr ⟨by rfl, rfl⟩) ?_ ?_
            rotate_left
            · simp only [Act.put, List.setIfInBounds_toArray, List.set_cons_zero, List.set_cons_succ, i64_w, i32_w]
              rfl
            refine pure_ (i := 21) (N := some 58) (v := undef) (a' := ?_) #[true, true, true, true, true, true, true, true, true, true, true, true, true, true, true, true, true, true, true, true, true, true, false, false, false, false, false] rfl rfl (by kernel_rfl) (fun _ _ _ h => h) (Or.inr ⟨by rfl, rfl⟩) ?_ ?_
            rotate_left
            · simp only [Act.put, List.setIfInBounds_toArray, List.set_cons_zero, List.set_cons_succ, i64_w, i32_w]
              rfl
            refine pure_ (i := 22) (N := some 59) (v := undef) (a' := ?_) #[true, true, true, true, true, true, true, true, true, true, true, true, true, true, true, true, true, true, true, true, true, true, true, false, false, false, false] rfl rfl (by kernel_rfl) (fun _ _ _ h => h) (Or.inr ⟨by rfl, rfl⟩) ?_ ?_
            rotate_left
            · simp only [Act.put, List.setIfInBounds_toArray, List.set_cons_zero, List.set_cons_succ, i64_w, i32_w]
              rfl
            refine pure_ (i := 23) (N := some 60) (v := undef) (a' := ?_) #[true, true, true, true, true, true, true, true, true, true, true, true, true, true, true, true, true, true, true, true, true, true, true, true, false, false, false] rfl rfl (by kernel_rfl) (fun _ _ _ h => h) (Or.inr ⟨by rfl, rfl⟩) ?_ ?_
            rotate_left
            · simp only [Act.put, List.setIfInBounds_toArray, List.set_cons_zero, List.set_cons_succ, i64_w, i32_w]
              rfl
            refine pure_ (i := 24) (N := some 61) (v := undef) (a' := ?_) #[true, true, true, true, true, true, true, true, true, true, true, true, true, true, true, true, true, true, true, true, true, true, true, true, true, false, false] rfl rfl (by kernel_rfl) (fun _ _ _ h => h) (Or.inr ⟨by rfl, rfl⟩) ?_ ?_
            rotate_left
            · simp only [Act.put, List.setIfInBounds_toArray, List.set_cons_zero, List.set_cons_succ, i64_w, i32_w]
              rfl
            refine pure_ (i := 25) (N := some 62) (v := ?_) (a' := ?_) #[true, true, true, true, true, true, true, true, true, true, true, true, true, true, true, true, true, true, true, true, true, true, true, true, true, true, false] rfl rfl (by kernel_rfl) (fun _ _ _ h => h) (Or.inl ⟨by rfl, ?_⟩) ?_ ?_
            rotate_left
            · intro w'
              go_simp
              with_reducible rfl
            rotate_left
            · simp only [Act.put, List.setIfInBounds_toArray, List.set_cons_zero, List.set_cons_succ, i64_w, i32_w]
              rfl
            refine pure_ (i := 26) (N := some 63) (v := ?_) (a' := ?_) #[true, true, true, true, true, true, true, true, true, true, true, true, true, true, true, true, true, true, true, true, true, true, true, true, true, true, true] rfl rfl (by kernel_rfl) (fun _ _ _ h => h) (Or.inl ⟨by rfl, ?_⟩) ?_ ?_
            rotate_left
            · intro w'
              go_simp
              with_reducible rfl
            rotate_left
            · simp only [Act.put, List.setIfInBounds_toArray, List.set_cons_zero, List.set_cons_succ, i64_w, i32_w]
              rfl
            refine done_ (by kernel_rfl) ?_
            go_wp2
            go_roundw
            case rel =>
              exact ⟨k + 1, by omega, rfl, ⟨hHeld.1⟩, ⟨hHeld.2.1⟩⟩
            case measure => simp only [intOf]; omega
        · have hd0 : decide ((k : Int) < ((na + 40 : Nat) : Int)) = false := decide_eq_false (by omega)
          have hd1 : decide (k < na + 40) = false := decide_eq_false hlt
          have hd5 : decide ((k : Int) < (na : Int) + 40) = false := decide_eq_false (by omega)
          clear hlt hk
          go_wp2
          exact ⟨⟨0 + 1, by omega, rfl, HBq⟩, by simp [intOf]⟩
    | 1, _ =>
      have q0 := (HTo.out.at_ 3 _ rfl).1
      have q1 := (HTo.out.at_ 4 _ rfl).1
      have q2 := (HTo.out.at_ 5 _ rfl).1
      have hm : assayerlaw01_isToken.f 0 ⟨#[35, 50]⟩ 0 2 = some true := by decide +kernel
      have hwn : wrap64 ((nb : Int) + 40) = (nb : Int) + 40 := by unfold wrap64; omega
      have hln : (((nb + 40 : Nat) : Int) != (nb : Int) + 40) = false := bne_eq_false_iff_eq.mpr (by omega)
      have hln2 : ((nb : Int) + 40 != (nb : Int) + 40) = false := bne_eq_false_iff_eq.mpr rfl
      try rw [show ((1 : Nat) : Int) = 1 from rfl]
      go_wp2
      go_loopw [5] (fun v5 wq => ∃ k : Nat, k ≤ nb + 40 ∧ v5 = .int .i64 (k : Int) ∧ Aside0 (wq.heap[wo.heap.size]? = some (.cells #[.slice Ab nb cb, .slice (some ⟨gt, 0, none⟩) (nb + 40) ds, .int .i64 2] 63 (0, 0))) ∧ Aside0 (Below w.heap.size w wq))
        (fun v5 _ => nb + 40 - (intOf v5).toNat)
      case atStart =>
        exact ⟨0, by omega, rfl, ⟨(MapKept.heap_alloc wo _).1⟩, ⟨HBe.out.alloc HBe.out.size _⟩⟩
      case round =>
        obtain ⟨k, hk, rfl, HQ, HBq⟩ := hrel
        have hbx0 : wr.cell? ⟨wo.heap.size, 0, none⟩ = some (.slice Ab nb cb) := by simp [World.cell?, HQ.out]
        have hbx1 : wr.cell? ⟨wo.heap.size, 1, none⟩ = some (.slice (some ⟨gt, 0, none⟩) (nb + 40) ds) := by simp [World.cell?, HQ.out]
        have hbx2 : wr.cell? ⟨wo.heap.size, 2, none⟩ = some (.int .i64 2) := by simp [World.cell?, HQ.out]
        clear q0 q1 q2 hcT
        by_cases hlt : k < nb + 40
        · have hd0 : decide ((k : Int) < ((nb + 40 : Nat) : Int)) = true := decide_eq_true (by omega)
          have hd1 : decide (k < nb + 40) = true := decide_eq_true hlt
          have hd5 : decide ((k : Int) < (nb : Int) + 40) = true := decide_eq_true (by omega)
          have hd2 : (0 : Int) ≤ (k : Int) ∧ (k : Int) < ((nb + 40 : Nat) : Int) := ⟨by omega, by omega⟩
          have hd3 : (k : Int) < (nb : Int) + 40 := by omega
          have hw64 : wrap64 ((k : Int) + 1) = (k : Int) + 1 := by unfold wrap64; omega
          have hlg : gt < w.heap.size := Bk_lookToken.lt (Bk_lookToken.cells HSB.out 0 (by omega)).1
          have RDS := HSB.out.move (w' := wr) (fun g hg => by cases hg; exact HBq.out.block gt hlg)
          obtain ⟨y0, y1, y2⟩ := Bk_lookToken.cells RDS k hlt
          by_cases hin : k < nb
          · have hi0 : decide ((k : Int) < (nb : Int)) = true := decide_eq_true (by omega)
            have hi1 : decide (k < nb) = true := decide_eq_true hin
            have hi2 : (0 : Int) ≤ (k : Int) ∧ (k : Int) < (nb : Int) := ⟨by omega, by omega⟩
            obtain ⟨g, hgA⟩ : ∃ g, Ab = some ⟨g, 0, none⟩ := hAb.resolve_left (by omega)
            have RDL := HB.out
            rw [hgA] at RDL
            have hlg2 : g < w.heap.size := Bk_lookToken.lt (Bk_lookToken.cells RDL 0 (by omega)).1
            have RDL2 := RDL.move (w' := wr) (fun g' hg => by cases hg; exact HBq.out.block g hlg2)
            obtain ⟨x0, x1, x2⟩ := Bk_lookToken.cells RDL2 k hin
            rw [hgA] at hbx0
            clear hgA
            go_wp2_with fail
            refine start_ (n := 27) (S := fun w' => w'.heap[wo.heap.size]? = some (.cells #[.slice Ab nb cb, .slice (some ⟨gt, 0, none⟩) (nb + 40) ds, .int .i64 2] 63 (0, 0)) ∧ Below w.heap.size w w' ∧ w'.cell? ⟨wo.heap.size, 0, none⟩ = some (.slice (some ⟨g, 0, none⟩) nb cb) ∧ w'.cell? ⟨wo.heap.size, 1, none⟩ = some (.slice (some ⟨gt, 0, none⟩) (nb + 40) ds) ∧ w'.cell? ⟨wo.heap.size, 2, none⟩ = some (.int .i64 2) ∧ w'.cell? ⟨gt, k * 3, none⟩ = some (.int .u8 0) ∧ w'.cell? ⟨gt, k * 3 + 1, none⟩ = some (.string ⟨#[35, 50]⟩) ∧ w'.cell? ⟨gt, k * 3 + 2, none⟩ = some (.int .i64 0) ∧ w'.cell? ⟨g, k * 3, none⟩ = some (.int .u8 0) ∧ w'.cell? ⟨g, k * 3 + 1, none⟩ = some (.string ⟨#[35, 50]⟩) ∧ w'.cell? ⟨g, k * 3 + 2, none⟩ = some (.int .i64 0)) (ds := []) #[false, false, false, false, false, false, false, false, false, false, false, false, false, false, false, false, false, false, false, false, false, false, false, false, false, false, false] (by kernel_rfl) rfl rfl ⟨HQ.out, (below_drew HBq.out), hbx0, hbx1, hbx2, y0, y1, y2, x0, x1, x2⟩ (fun hHeld => ?_)
            refine pure_ (i := 0) (N := some 37) (v := ?_) (a' := ?_) #[true, false, false, false, false, false, false, false, false, false, false, false, false, false, false, false, false, false, false, false, false, false, false, false, false, false, false] rfl rfl (by kernel_rfl) (fun _ _ _ h => h) (Or.inl ⟨by rfl, ?_⟩) ?_ ?_
            rotate_left
            · intro w'
              go_simp
              with_reducible rfl
            rotate_left
            · simp only [Act.put, List.setIfInBounds_toArray, List.set_cons_zero, List.set_cons_succ, i64_w, i32_w]
              rfl
            refine pure_ (i := 2) (N := some 39) (v := ?_) (a' := ?_) #[true, false, true, false, false, false, false, false, false, false, false, false, false, false, false, false, false, false, false, false, false, false, false, false, false, false, false] rfl rfl (by kernel_rfl) (fun _ _ _ h => h) (Or.inl ⟨by rfl, ?_⟩) ?_ ?_
            rotate_left
            · intro w'
              go_simp
              with_reducible rfl
            rotate_left
            · simp only [Act.put, List.setIfInBounds_toArray, List.set_cons_zero, List.set_cons_succ, i64_w, i32_w]
              rfl
            refine pure_ (i := 5) (N := some 42) (v := ?_) (a' := ?_) #[true, false, true, false, false, true, false, false, false, false, false, false, false, false, false, false, false, false, false, false, false, false, false, false, false, false, false] rfl rfl (by kernel_rfl) (fun _ _ _ h => h) (Or.inl ⟨by rfl, ?_⟩) ?_ ?_
            rotate_left
            · intro w'
              go_simp
              with_reducible rfl
            rotate_left
            · simp only [Act.put, List.setIfInBounds_toArray, List.set_cons_zero, List.set_cons_succ, i64_w, i32_w]
              rfl
            refine take_ (i := 1) (N := some 38) (v := ?_) (a' := ?_) #[true, true, true, false, false, true, false, false, false, false, false, false, false, false, false, false, false, false, false, false, false, false, false, false, false, false, false] rfl rfl (by kernel_rfl) (fun _ _ _ h => h) (Or.inl ⟨by rfl, ?_⟩) hHeld ?_ ?_
            rotate_left
            · rintro w' ⟨s0, s1, s2, s3, s4, s5, s6, s7, s8, s9, s10⟩
              go_simp
              with_reducible rfl
            rotate_left
            · simp only [Act.put, List.setIfInBounds_toArray, List.set_cons_zero, List.set_cons_succ, i64_w, i32_w]
              rfl
            refine pure_ (i := 3) (N := some 40) (v := ?_) (a' := ?_) #[true, true, true, true, false, true, false, false, false, false, false, false, false, false, false, false, false, false, false, false, false, false, false, false, false, false, false] rfl rfl (by kernel_rfl) (fun _ _ _ h => h) (Or.inl ⟨by rfl, ?_⟩) ?_ ?_
            rotate_left
            · intro w'
              go_simp
              with_reducible rfl
            rotate_left
            · simp only [Act.put, List.setIfInBounds_toArray, List.set_cons_zero, List.set_cons_succ, i64_w, i32_w]
              rfl
            refine take_ (i := 4) (N := some 41) (v := ?_) (a' := ?_) #[true, true, true, true, true, true, false, false, false, false, false, false, false, false, false, false, false, false, false, false, false, false, false, false, false, false, false] rfl rfl (by kernel_rfl) (fun _ _ _ h => h) (Or.inl ⟨by rfl, ?_⟩) hHeld ?_ ?_
            rotate_left
            · rintro w' ⟨s0, s1, s2, s3, s4, s5, s6, s7, s8, s9, s10⟩
              go_simp
              with_reducible rfl
            rotate_left
            · simp only [Act.put, List.setIfInBounds_toArray, List.set_cons_zero, List.set_cons_succ, i64_w, i32_w]
              rfl
            refine take_ (i := 6) (N := some 43) (v := ?_) (a' := ?_) #[true, true, true, true, true, true, true, false, false, false, false, false, false, false, false, false, false, false, false, false, false, false, false, false, false, false, false] rfl rfl (by kernel_rfl) (fun _ _ _ h => h) (Or.inl ⟨by rfl, ?_⟩) hHeld ?_ ?_
            rotate_left
            · rintro w' ⟨s0, s1, s2, s3, s4, s5, s6, s7, s8, s9, s10⟩
              go_simp
              with_reducible rfl
            rotate_left
            · simp only [Act.put, List.setIfInBounds_toArray, List.set_cons_zero, List.set_cons_succ, i64_w, i32_w]
              rfl
            refine one_ (i := 7) (N := some 44) #[true, true, true, true, true, true, true, true, false, false, false, false, false, false, false, false, false, false, false, false, false, false, false, false, false, false, false] rfl rfl (by kernel_rfl) (by decide) (fun K hK => ?_)
            refine goes_ Tryz.func79 (by kernel_rfl) rfl #[.agg #[.int .u8 0, .string ⟨#[35, 50]⟩, .int .i64 0], .int .i64 2] (by rfl) rfl rfl (by simp only [List.map_toArray, List.map_cons, List.map_nil]; rfl) ?_
            with_reducible refine (assayerlaw01_isToken.calls 0 ⟨#[35, 50]⟩ 0 2 true _ hm).mono ?_
            rintro e w3 ⟨rfl, hb⟩
            refine ⟨_, rfl, ?_⟩
            refine hK.out _ _ ⟨((hb.block _ (Array.getElem?_eq_some_iff.1 hHeld.1).1).trans hHeld.1), (below_step hHeld.2.1 hb), ((hb.cell (p := ⟨wo.heap.size, 0, none⟩) (Bk_lookToken.lt hHeld.2.2.1)).trans hHeld.2.2.1), ((hb.cell (p := ⟨wo.heap.size, 1, none⟩) (Bk_lookToken.lt hHeld.2.2.2.1)).trans hHeld.2.2.2.1), ((hb.cell (p := ⟨wo.heap.size, 2, none⟩) (Bk_lookToken.lt hHeld.2.2.2.2.1)).trans hHeld.2.2.2.2.1), ((hb.cell (p := ⟨gt, k * 3, none⟩) (Bk_lookToken.lt hHeld.2.2.2.2.2.1)).trans hHeld.2.2.2.2.2.1), ((hb.cell (p := ⟨gt, k * 3 + 1, none⟩) (Bk_lookToken.lt hHeld.2.2.2.2.2.2.1)).trans hHeld.2.2.2.2.2.2.1), ((hb.cell (p := ⟨gt, k * 3 + 2, none⟩) (Bk_lookToken.lt hHeld.2.2.2.2.2.2.2.1)).trans hHeld.2.2.2.2.2.2.2.1), ((hb.cell (p := ⟨g, k * 3, none⟩) (Bk_lookToken.lt hHeld.2.2.2.2.2.2.2.2.1)).trans hHeld.2.2.2.2.2.2.2.2.1), ((hb.cell (p := ⟨g, k * 3 + 1, none⟩) (Bk_lookToken.lt hHeld.2.2.2.2.2.2.2.2.2.1)).trans hHeld.2.2.2.2.2.2.2.2.2.1), ((hb.cell (p := ⟨g, k * 3 + 2, none⟩) (Bk_lookToken.lt hHeld.2.2.2.2.2.2.2.2.2.2)).trans hHeld.2.2.2.2.2.2.2.2.2.2)⟩ (fun hHeld => ?_)
            clear hK K
            refine norm_ (a' := ?_) ?_ ?_
            rotate_left
            · show Act.put _ (some 44) _ = _
              simp only [Act.put, List.setIfInBounds_toArray, List.set_cons_zero, List.set_cons_succ, i64_w, i32_w]
              rfl
            refine pure_ (i := 8) (N := some 45) (v := ?_) (a' := ?_) #[true, true, true, true, true, true, true, true, true, false, false, false, false, false, false, false, false, false, false, false, false, false, false, false, false, false, false] rfl rfl (by kernel_rfl) (fun _ _ _ h => h) (Or.inl ⟨by rfl, ?_⟩) ?_ ?_
            rotate_left
            · intro w'
              go_simp
              with_reducible rfl
            rotate_left
            · simp only [Act.put, List.setIfInBounds_toArray, List.set_cons_zero, List.set_cons_succ, i64_w, i32_w]
              rfl
            refine pure_ (i := 9) (N := some 46) (v := ?_) (a' := ?_) #[true, true, true, true, true, true, true, true, true, true, false, false, false, false, false, false, false, false, false, false, false, false, false, false, false, false, false] rfl rfl (by kernel_rfl) (fun _ _ _ h => h) (Or.inl ⟨by rfl, ?_⟩) ?_ ?_
            rotate_left
            · intro w'
              go_simp
              with_reducible rfl
            rotate_left
            · simp only [Act.put, List.setIfInBounds_toArray, List.set_cons_zero, List.set_cons_succ, i64_w, i32_w]
              rfl
            refine pure_ (i := 10) (N := some 47) (v := ?_) (a' := ?_) #[true, true, true, true, true, true, true, true, true, true, true, false, false, false, false, false, false, false, false, false, false, false, false, false, false, false, false] rfl rfl (by kernel_rfl) (fun _ _ _ h => h) (Or.inl ⟨by rfl, ?_⟩) ?_ ?_
            rotate_left
            · intro w'
              go_simp
              with_reducible rfl
            rotate_left
            · simp only [Act.put, List.setIfInBounds_toArray, List.set_cons_zero, List.set_cons_succ, i64_w, i32_w]
              rfl
            refine pure_ (i := 11) (N := some 48) (v := ?_) (a' := ?_) #[true, true, true, true, true, true, true, true, true, true, true, true, false, false, false, false, false, false, false, false, false, false, false, false, false, false, false] rfl rfl (by kernel_rfl) (fun _ _ _ h => h) (Or.inl ⟨by rfl, ?_⟩) ?_ ?_
            rotate_left
            · intro w'
              go_simp
              with_reducible rfl
            rotate_left
            · simp only [Act.put, List.setIfInBounds_toArray, List.set_cons_zero, List.set_cons_succ, i64_w, i32_w]
              rfl
            refine take_ (i := 12) (N := some 49) (v := ?_) (a' := ?_) #[true, true, true, true, true, true, true, true, true, true, true, true, true, false, false, false, false, false, false, false, false, false, false, false, false, false, false] rfl rfl (by kernel_rfl) (fun _ _ _ h => h) (Or.inl ⟨by rfl, ?_⟩) hHeld ?_ ?_
            rotate_left
            · rintro w' ⟨s0, s1, s2, s3, s4, s5, s6, s7, s8, s9, s10⟩
              go_simp
              with_reducible rfl
            rotate_left
            · simp only [Act.put, List.setIfInBounds_toArray, List.set_cons_zero, List.set_cons_succ, i64_w, i32_w]
              rfl
            refine pure_ (i := 13) (N := some 50) (v := ?_) (a' := ?_) #[true, true, true, true, true, true, true, true, true, true, true, true, true, true, false, false, false, false, false, false, false, false, false, false, false, false, false] rfl rfl (by kernel_rfl) (fun _ _ _ h => h) (Or.inl ⟨by rfl, ?_⟩) ?_ ?_
            rotate_left
            · intro w'
              go_simp
              with_reducible rfl
            rotate_left
            · simp only [Act.put, List.setIfInBounds_toArray, List.set_cons_zero, List.set_cons_succ, i64_w, i32_w]
              rfl
            refine pure_ (i := 14) (N := some 51) (v := ?_) (a' := ?_) #[true, true, true, true, true, true, true, true, true, true, true, true, true, true, true, false, false, false, false, false, false, false, false, false, false, false, false] rfl rfl (by kernel_rfl) (fun _ _ _ h => h) (Or.inl ⟨by rfl, ?_⟩) ?_ ?_
            rotate_left
            · intro w'
              go_simp
              with_reducible rfl
            rotate_left
            · simp only [Act.put, List.setIfInBounds_toArray, List.set_cons_zero, List.set_cons_succ, i64_w, i32_w]
              rfl
            refine pure_ (i := 15) (N := some 52) (v := ?_) (a' := ?_) #[true, true, true, true, true, true, true, true, true, true, true, true, true, true, true, true, false, false, false, false, false, false, false, false, false, false, false] rfl rfl (by kernel_rfl) (fun _ _ _ h => h) (Or.inl ⟨by rfl, ?_⟩) ?_ ?_
            rotate_left
            · intro w'
              go_simp
              with_reducible rfl
            rotate_left
            · simp only [Act.put, List.setIfInBounds_toArray, List.set_cons_zero, List.set_cons_succ, i64_w, i32_w]
              rfl
            refine pure_ (i := 16) (N := some 53) (v := ?_) (a' := ?_) #[true, true, true, true, true, true, true, true, true, true, true, true, true, true, true, true, true, false, false, false, false, false, false, false, false, false, false] rfl rfl (by kernel_rfl) (fun _ _ _ h => h) (Or.inl ⟨by rfl, ?_⟩) ?_ ?_
            rotate_left
            · intro w'
              go_simp
              with_reducible rfl
            rotate_left
            · simp only [Act.put, List.setIfInBounds_toArray, List.set_cons_zero, List.set_cons_succ, i64_w, i32_w]
              rfl
            refine pure_ (i := 18) (N := some 55) (v := ?_) (a' := ?_) #[true, true, true, true, true, true, true, true, true, true, true, true, true, true, true, true, true, false, true, false, false, false, false, false, false, false, false] rfl rfl (by kernel_rfl) (fun _ _ _ h => h) (Or.inl ⟨by rfl, ?_⟩) ?_ ?_
            rotate_left
            · intro w'
              go_simp
              with_reducible rfl
            rotate_left
            · simp only [Act.put, List.setIfInBounds_toArray, List.set_cons_zero, List.set_cons_succ, i64_w, i32_w]
              rfl
            refine pure_ (i := 21) (N := some 58) (v := ?_) (a' := ?_) #[true, true, true, true, true, true, true, true, true, true, true, true, true, true, true, true, true, false, true, false, false, true, false, false, false, false, false] rfl rfl (by kernel_rfl) (fun _ _ _ h => h) (Or.inl ⟨by rfl, ?_⟩) ?_ ?_
            rotate_left
            · intro w'
              go_simp
              with_reducible rfl
            rotate_left
            · simp only [Act.put, List.setIfInBounds_toArray, List.set_cons_zero, List.set_cons_succ, i64_w, i32_w]
              rfl
            refine take_ (i := 17) (N := some 54) (v := ?_) (a' := ?_) #[true, true, true, true, true, true, true, true, true, true, true, true, true, true, true, true, true, true, true, false, false, true, false, false, false, false, false] rfl rfl (by kernel_rfl) (fun _ _ _ h => h) (Or.inl ⟨by rfl, ?_⟩) hHeld ?_ ?_
            rotate_left
            · rintro w' ⟨s0, s1, s2, s3, s4, s5, s6, s7, s8, s9, s10⟩
              go_simp
              with_reducible rfl
            rotate_left
            · simp only [Act.put, List.setIfInBounds_toArray, List.set_cons_zero, List.set_cons_succ, i64_w, i32_w]
              rfl
            refine pure_ (i := 19) (N := some 56) (v := ?_) (a' := ?_) #[true, true, true, true, true, true, true, true, true, true, true, true, true, true, true, true, true, true, true, true, false, true, false, false, false, false, false] rfl rfl (by kernel_rfl) (fun _ _ _ h => h) (Or.inl ⟨by rfl, ?_⟩) ?_ ?_
            rotate_left
            · intro w'
              go_simp
              with_reducible rfl
            rotate_left
            · simp only [Act.put, List.setIfInBounds_toArray, List.set_cons_zero, List.set_cons_succ, i64_w, i32_w]
              rfl
            refine take_ (i := 20) (N := some 57) (v := ?_) (a' := ?_) #[true, true, true, true, true, true, true, true, true, true, true, true, true, true, true, true, true, true, true, true, true, true, false, false, false, false, false] rfl rfl (by kernel_rfl) (fun _ _ _ h => h) (Or.inl ⟨by rfl, ?_⟩) hHeld ?_ ?_
            rotate_left
            · rintro w' ⟨s0, s1, s2, s3, s4, s5, s6, s7, s8, s9, s10⟩
              go_simp
              with_reducible rfl
            rotate_left
            · simp only [Act.put, List.setIfInBounds_toArray, List.set_cons_zero, List.set_cons_succ, i64_w, i32_w]
              rfl
            refine take_ (i := 22) (N := some 59) (v := ?_) (a' := ?_) #[true, true, true, true, true, true, true, true, true, true, true, true, true, true, true, true, true, true, true, true, true, true, true, false, false, false, false] rfl rfl (by kernel_rfl) (fun _ _ _ h => h) (Or.inl ⟨by rfl, ?_⟩) hHeld ?_ ?_
            rotate_left
            · rintro w' ⟨s0, s1, s2, s3, s4, s5, s6, s7, s8, s9, s10⟩
              go_simp
              with_reducible rfl
            rotate_left
            · simp only [Act.put, List.setIfInBounds_toArray, List.set_cons_zero, List.set_cons_succ, i64_w, i32_w]
              rfl
            refine one_ (i := 23) (N := some 60) #[true, true, true, true, true, true, true, true, true, true, true, true, true, true, true, true, true, true, true, true, true, true, true, true, false, false, false] rfl rfl (by kernel_rfl) (by decide) (fun K hK => ?_)
            refine goes_ Tryz.func79 (by kernel_rfl) rfl #[.agg #[.int .u8 0, .string ⟨#[35, 50]⟩, .int .i64 0], .int .i64 2] (by rfl) rfl rfl (by simp only [List.map_toArray, List.map_cons, List.map_nil]; rfl) ?_
            with_reducible refine (assayerlaw01_isToken.calls 0 ⟨#[35, 50]⟩ 0 2 true _ hm).mono ?_
            rintro e w5 ⟨rfl, hb⟩
            refine ⟨_, rfl, ?_⟩
            refine hK.out _ _ ⟨((hb.block _ (Array.getElem?_eq_some_iff.1 hHeld.1).1).trans hHeld.1), (below_step hHeld.2.1 hb), ((hb.cell (p := ⟨wo.heap.size, 0, none⟩) (Bk_lookToken.lt hHeld.2.2.1)).trans hHeld.2.2.1), ((hb.cell (p := ⟨wo.heap.size, 1, none⟩) (Bk_lookToken.lt hHeld.2.2.2.1)).trans hHeld.2.2.2.1), ((hb.cell (p := ⟨wo.heap.size, 2, none⟩) (Bk_lookToken.lt hHeld.2.2.2.2.1)).trans hHeld.2.2.2.2.1), ((hb.cell (p := ⟨gt, k * 3, none⟩) (Bk_lookToken.lt hHeld.2.2.2.2.2.1)).trans hHeld.2.2.2.2.2.1), ((hb.cell (p := ⟨gt, k * 3 + 1, none⟩) (Bk_lookToken.lt hHeld.2.2.2.2.2.2.1)).trans hHeld.2.2.2.2.2.2.1), ((hb.cell (p := ⟨gt, k * 3 + 2, none⟩) (Bk_lookToken.lt hHeld.2.2.2.2.2.2.2.1)).trans hHeld.2.2.2.2.2.2.2.1), ((hb.cell (p := ⟨g, k * 3, none⟩) (Bk_lookToken.lt hHeld.2.2.2.2.2.2.2.2.1)).trans hHeld.2.2.2.2.2.2.2.2.1), ((hb.cell (p := ⟨g, k * 3 + 1, none⟩) (Bk_lookToken.lt hHeld.2.2.2.2.2.2.2.2.2.1)).trans hHeld.2.2.2.2.2.2.2.2.2.1), ((hb.cell (p := ⟨g, k * 3 + 2, none⟩) (Bk_lookToken.lt hHeld.2.2.2.2.2.2.2.2.2.2)).trans hHeld.2.2.2.2.2.2.2.2.2.2)⟩ (fun hHeld => ?_)
            clear hK K
            refine norm_ (a' := ?_) ?_ ?_
            rotate_left
            · show Act.put _ (some 60) _ = _
              simp only [Act.put, List.setIfInBounds_toArray, List.set_cons_zero, List.set_cons_succ, i64_w, i32_w]
              rfl
            refine pure_ (i := 24) (N := some 61) (v := ?_) (a' := ?_) #[true, true, true, true, true, true, true, true, true, true, true, true, true, true, true, true, true, true, true, true, true, true, true, true, true, false, false] rfl rfl (by kernel_rfl) (fun _ _ _ h => h) (Or.inl ⟨by rfl, ?_⟩) ?_ ?_
            rotate_left
            · intro w'
              go_simp
              with_reducible rfl
            rotate_left
            · simp only [Act.put, List.setIfInBounds_toArray, List.set_cons_zero, List.set_cons_succ, i64_w, i32_w]
              rfl
            refine pure_ (i := 25) (N := some 62) (v := ?_) (a' := ?_) #[true, true, true, true, true, true, true, true, true, true, true, true, true, true, true, true, true, true, true, true, true, true, true, true, true, true, false] rfl rfl (by kernel_rfl) (fun _ _ _ h => h) (Or.inl ⟨by rfl, ?_⟩) ?_ ?_
            rotate_left
            · intro w'
              go_simp
              with_reducible rfl
            rotate_left
            · simp only [Act.put, List.setIfInBounds_toArray, List.set_cons_zero, List.set_cons_succ, i64_w, i32_w]
              rfl
            refine pure_ (i := 26) (N := some 63) (v := ?_) (a' := ?_) #[true, true, true, true, true, true, true, true, true, true, true, true, true, true, true, true, true, true, true, true, true, true, true, true, true, true, true] rfl rfl (by kernel_rfl) (fun _ _ _ h => h) (Or.inl ⟨by rfl, ?_⟩) ?_ ?_
            rotate_left
            · intro w'
              go_simp
              with_reducible rfl
            rotate_left
            · simp only [Act.put, List.setIfInBounds_toArray, List.set_cons_zero, List.set_cons_succ, i64_w, i32_w]
              rfl
            refine done_ (by kernel_rfl) ?_
            go_wp2
            go_roundw
            case rel =>
              exact ⟨k + 1, by omega, rfl, ⟨hHeld.1⟩, ⟨hHeld.2.1⟩⟩
            case measure => simp only [intOf]; omega
          · have hi0 : decide ((k : Int) < (nb : Int)) = false := decide_eq_false (by omega)
            have hi1 : decide (k < nb) = false := decide_eq_false hin
            go_wp2_with fail
            refine start_ (n := 27) (S := fun w' => w'.heap[wo.heap.size]? = some (.cells #[.slice Ab nb cb, .slice (some ⟨gt, 0, none⟩) (nb + 40) ds, .int .i64 2] 63 (0, 0)) ∧ Below w.heap.size w w' ∧ w'.cell? ⟨wo.heap.size, 0, none⟩ = some (.slice Ab nb cb) ∧ w'.cell? ⟨wo.heap.size, 1, none⟩ = some (.slice (some ⟨gt, 0, none⟩) (nb + 40) ds) ∧ w'.cell? ⟨wo.heap.size, 2, none⟩ = some (.int .i64 2) ∧ w'.cell? ⟨gt, k * 3, none⟩ = some (.int .u8 0) ∧ w'.cell? ⟨gt, k * 3 + 1, none⟩ = some (.string ⟨#[35, 50]⟩) ∧ w'.cell? ⟨gt, k * 3 + 2, none⟩ = some (.int .i64 0)) (ds := []) #[false, false, false, false, false, false, false, false, false, false, false, false, false, false, false, false, false, false, false, false, false, false, false, false, false, false, false] (by kernel_rfl) rfl rfl ⟨HQ.out, (below_drew HBq.out), hbx0, hbx1, hbx2, y0, y1, y2⟩ (fun hHeld => ?_)
            refine pure_ (i := 0) (N := some 37) (v := ?_) (a' := ?_) #[true, false, false, false, false, false, false, false, false, false, false, false, false, false, false, false, false, false, false, false, false, false, false, false, false, false, false] rfl rfl (by kernel_rfl) (fun _ _ _ h => h) (Or.inl ⟨by rfl, ?_⟩) ?_ ?_
            rotate_left
            · intro w'
              go_simp
              with_reducible rfl
            rotate_left
            · simp only [Act.put, List.setIfInBounds_toArray, List.set_cons_zero, List.set_cons_succ, i64_w, i32_w]
              rfl
            refine pure_ (i := 2) (N := some 39) (v := ?_) (a' := ?_) #[true, false, true, false, false, false, false, false, false, false, false, false, false, false, false, false, false, false, false, false, false, false, false, false, false, false, false] rfl rfl (by kernel_rfl) (fun _ _ _ h => h) (Or.inl ⟨by rfl, ?_⟩) ?_ ?_
            rotate_left
            · intro w'
              go_simp
              with_reducible rfl
            rotate_left
            · simp only [Act.put, List.setIfInBounds_toArray, List.set_cons_zero, List.set_cons_succ, i64_w, i32_w]
              rfl
            refine pure_ (i := 5) (N := some 42) (v := ?_) (a' := ?_) #[true, false, true, false, false, true, false, false, false, false, false, false, false, false, false, false, false, false, false, false, false, false, false, false, false, false, false] rfl rfl (by kernel_rfl) (fun _ _ _ h => h) (Or.inl ⟨by rfl, ?_⟩) ?_ ?_
            rotate_left
            · intro w'
              go_simp
              with_reducible rfl
            rotate_left
            · simp only [Act.put, List.setIfInBounds_toArray, List.set_cons_zero, List.set_cons_succ, i64_w, i32_w]
              rfl
            refine take_ (i := 1) (N := some 38) (v := ?_) (a' := ?_) #[true, true, true, false, false, true, false, false, false, false, false, false, false, false, false, false, false, false, false, false, false, false, false, false, false, false, false] rfl rfl (by kernel_rfl) (fun _ _ _ h => h) (Or.inl ⟨by rfl, ?_⟩) hHeld ?_ ?_
            rotate_left
            · rintro w' ⟨s0, s1, s2, s3, s4, s5, s6, s7⟩
              go_simp
              with_reducible rfl
            rotate_left
            · simp only [Act.put, List.setIfInBounds_toArray, List.set_cons_zero, List.set_cons_succ, i64_w, i32_w]
              rfl
            refine pure_ (i := 3) (N := some 40) (v := ?_) (a' := ?_) #[true, true, true, true, false, true, false, false, false, false, false, false, false, false, false, false, false, false, false, false, false, false, false, false, false, false, false] rfl rfl (by kernel_rfl) (fun _ _ _ h => h) (Or.inl ⟨by rfl, ?_⟩) ?_ ?_
            rotate_left
            · intro w'
              go_simp
              with_reducible rfl
            rotate_left
            · simp only [Act.put, List.setIfInBounds_toArray, List.set_cons_zero, List.set_cons_succ, i64_w, i32_w]
              rfl
            refine take_ (i := 4) (N := some 41) (v := ?_) (a' := ?_) #[true, true, true, true, true, true, false, false, false, false, false, false, false, false, false, false, false, false, false, false, false, false, false, false, false, false, false] rfl rfl (by kernel_rfl) (fun _ _ _ h => h) (Or.inl ⟨by rfl, ?_⟩) hHeld ?_ ?_
            rotate_left
            · rintro w' ⟨s0, s1, s2, s3, s4, s5, s6, s7⟩
              go_simp
              with_reducible rfl
            rotate_left
            · simp only [Act.put, List.setIfInBounds_toArray, List.set_cons_zero, List.set_cons_succ, i64_w, i32_w]
              rfl
            refine take_ (i := 6) (N := some 43) (v := ?_) (a' := ?_) #[true, true, true, true, true, true, true, false, false, false, false, false, false, false, false, false, false, false, false, false, false, false, false, false, false, false, false] rfl rfl (by kernel_rfl) (fun _ _ _ h => h) (Or.inl ⟨by rfl, ?_⟩) hHeld ?_ ?_
            rotate_left
            · rintro w' ⟨s0, s1, s2, s3, s4, s5, s6, s7⟩
              go_simp
              with_reducible rfl
            rotate_left
            · simp only [Act.put, List.setIfInBounds_toArray, List.set_cons_zero, List.set_cons_succ, i64_w, i32_w]
              rfl
            refine one_ (i := 7) (N := some 44) #[true, true, true, true, true, true, true, true, false, false, false, false, false, false, false, false, false, false, false, false, false, false, false, false, false, false, false] rfl rfl (by kernel_rfl) (by decide) (fun K hK => ?_)
            refine goes_ Tryz.func79 (by kernel_rfl) rfl #[.agg #[.int .u8 0, .string ⟨#[35, 50]⟩, .int .i64 0], .int .i64 2] (by rfl) rfl rfl (by simp only [List.map_toArray, List.map_cons, List.map_nil]; rfl) ?_
            with_reducible refine (assayerlaw01_isToken.calls 0 ⟨#[35, 50]⟩ 0 2 true _ hm).mono ?_
            rintro e w3 ⟨rfl, hb⟩
            refine ⟨_, rfl, ?_⟩
            refine hK.out _ _ ⟨((hb.block _ (Array.getElem?_eq_some_iff.1 hHeld.1).1).trans hHeld.1), (below_step hHeld.2.1 hb), ((hb.cell (p := ⟨wo.heap.size, 0, none⟩) (Bk_lookToken.lt hHeld.2.2.1)).trans hHeld.2.2.1), ((hb.cell (p := ⟨wo.heap.size, 1, none⟩) (Bk_lookToken.lt hHeld.2.2.2.1)).trans hHeld.2.2.2.1), ((hb.cell (p := ⟨wo.heap.size, 2, none⟩) (Bk_lookToken.lt hHeld.2.2.2.2.1)).trans hHeld.2.2.2.2.1), ((hb.cell (p := ⟨gt, k * 3, none⟩) (Bk_lookToken.lt hHeld.2.2.2.2.2.1)).trans hHeld.2.2.2.2.2.1), ((hb.cell (p := ⟨gt, k * 3 + 1, none⟩) (Bk_lookToken.lt hHeld.2.2.2.2.2.2.1)).trans hHeld.2.2.2.2.2.2.1), ((hb.cell (p := ⟨gt, k * 3 + 2, none⟩) (Bk_lookToken.lt hHeld.2.2.2.2.2.2.2)).trans hHeld.2.2.2.2.2.2.2)⟩ (fun hHeld => ?_)
            clear hK K
            refine norm_ (a' := ?_) ?_ ?_
            rotate_left
            · show Act.put _ (some 44) _ = _
              simp only [Act.put, List.setIfInBounds_toArray, List.set_cons_zero, List.set_cons_succ, i64_w, i32_w]
              rfl
            refine pure_ (i := 8) (N := some 45) (v := ?_) (a' := ?_) #[true, true, true, true, true, true, true, true, true, false, false, false, false, false, false, false, false, false, false, false, false, false, false, false, false, false, false] rfl rfl (by kernel_rfl) (fun _ _ _ h => h) (Or.inl ⟨by rfl, ?_⟩) ?_ ?_
            rotate_left
            · intro w'
              go_simp
              with_reducible rfl
            rotate_left
            · simp only [Act.put, List.setIfInBounds_toArray, List.set_cons_zero, List.set_cons_succ, i64_w, i32_w]
              rfl
            refine pure_ (i := 9) (N := some 46) (v := ?_) (a' := ?_) #[true, true, true, true, true, true, true, true, true, true, false, false, false, false, false, false, false, false, false, false, false, false, false, false, false, false, false] rfl rfl (by kernel_rfl) (fun _ _ _ h => h) (Or.inl ⟨by rfl, ?_⟩) ?_ ?_
            rotate_left
            · intro w'
              go_simp
              with_reducible rfl
            rotate_left
            · simp only [Act.put, List.setIfInBounds_toArray, List.set_cons_zero, List.set_cons_succ, i64_w, i32_w]
              rfl
            refine pure_ (i := 10) (N := some 47) (v := ?_) (a' := ?_) #[true, true, true, true, true, true, true, true, true, true, true, false, false, false, false, false, false, false, false, false, false, false, false, false, false, false, false] rfl rfl (by kernel_rfl) (fun _ _ _ h => h) (Or.inl ⟨by rfl, ?_⟩) ?_ ?_
            rotate_left
            · intro w'
              go_simp
              with_reducible rfl
            rotate_left
            · simp only [Act.put, List.setIfInBounds_toArray, List.set_cons_zero, List.set_cons_succ, i64_w, i32_w]
              rfl
            refine pure_ (i := 11) (N := some 48) (v := ?_) (a' := ?_) #[true, true, true, true, true, true, true, true, true, true, true, true, false, false, false, false, false, false, false, false, false, false, false, false, false, false, false] rfl rfl (by kernel_rfl) (fun _ _ _ h => h) (Or.inl ⟨by rfl, ?_⟩) ?_ ?_
            rotate_left
            · intro w'
              go_simp
              with_reducible rfl
            rotate_left
            · simp only [Act.put, List.setIfInBounds_toArray, List.set_cons_zero, List.set_cons_succ, i64_w, i32_w]
              rfl
            refine take_ (i := 12) (N := some 49) (v := ?_) (a' := ?_) #[true, true, true, true, true, true, true, true, true, true, true, true, true, false, false, false, false, false, false, false, false, false, false, false, false, false, false] rfl rfl (by kernel_rfl) (fun _ _ _ h => h) (Or.inl ⟨by rfl, ?_⟩) hHeld ?_ ?_
            rotate_left
            · rintro w' ⟨s0, s1, s2, s3, s4, s5, s6, s7⟩
              go_simp
              with_reducible rfl
            rotate_left
            · simp only [Act.put, List.setIfInBounds_toArray, List.set_cons_zero, List.set_cons_succ, i64_w, i32_w]
              rfl
            refine pure_ (i := 13) (N := some 50) (v := ?_) (a' := ?_) #[true, true, true, true, true, true, true, true, true, true, true, true, true, true, false, false, false, false, false, false, false, false, false, false, false, false, false] rfl rfl (by kernel_rfl) (fun _ _ _ h => h) (Or.inl ⟨by rfl, ?_⟩) ?_ ?_
            rotate_left
            · intro w'
              go_simp
              with_reducible rfl
            rotate_left
            · simp only [Act.put, List.setIfInBounds_toArray, List.set_cons_zero, List.set_cons_succ, i64_w, i32_w]
              rfl
            refine pure_ (i := 14) (N := some 51) (v := ?_) (a' := ?_) #[true, true, true, true, true, true, true, true, true, true, true, true, true, true, true, false, false, false, false, false, false, false, false, false, false, false, false] rfl rfl (by kernel_rfl) (fun _ _ _ h => h) (Or.inl ⟨by rfl, ?_⟩) ?_ ?_
            rotate_left
            · intro w'
              go_simp
              with_reducible rfl
            rotate_left
            · simp only [Act.put, List.setIfInBounds_toArray, List.set_cons_zero, List.set_cons_succ, i64_w, i32_w]
              rfl
            refine pure_ (i := 15) (N := some 52) (v := ?_) (a' := ?_) #[true, true, true, true, true, true, true, true, true, true, true, true, true, true, true, true, false, false, false, false, false, false, false, false, false, false, false] rfl rfl (by kernel_rfl) (fun _ _ _ h => h) (Or.inl ⟨by rfl, ?_⟩) ?_ ?_
            rotate_left
            · intro w'
              go_simp
              with_reducible rfl
            rotate_left
            · simp only [Act.put, List.setIfInBounds_toArray, List.set_cons_zero, List.set_cons_succ, i64_w, i32_w]
              rfl
            refine pure_ (i := 16) (N := some 53) (v := undef) (a' := ?_) #[true, true, true, true, true, true, true, true, true, true, true, true, true, true, true, true, true, false, false, false, false, false, false, false, false, false, false] rfl rfl (by kernel_rfl) (fun _ _ _ h => h) (Or.inr ⟨by rfl, rfl⟩) ?_ ?_
            rotate_left
            · simp only [Act.put, List.setIfInBounds_toArray, List.set_cons_zero, List.set_cons_succ, i64_w, i32_w]
              rfl
            refine pure_ (i := 17) (N := some 54) (v := undef) (a' := ?_) #[true, true, true, true, true, true, true, true, true, true, true, true, true, true, true, true, true, true, false, false, false, false, false, false, false, false, false] rfl rfl (by kernel_rfl) (fun _ _ _ h => h) (Or.inr ⟨by rfl, rfl⟩) ?_ ?_
            rotate_left
            · simp only [Act.put, List.setIfInBounds_toArray, List.set_cons_zero, List.set_cons_succ, i64_w, i32_w]
              rfl
            refine pure_ (i := 18) (N := some 55) (v := undef) (a' := ?_) #[true, true, true, true, true, true, true, true, true, true, true, true, true, true, true, true, true, true, true, false, false, false, false, false, false, false, false] rfl rfl (by kernel_rfl) (fun _ _ _ h => h) (Or.inr ⟨by rfl, rfl⟩) ?_ ?_
            rotate_left
            · simp only [Act.put, List.setIfInBounds_toArray, List.set_cons_zero, List.set_cons_succ, i64_w, i32_w]
              rfl
            refine pure_ (i := 19) (N := some 56) (v := undef) (a' := ?_) #[true, true, true, true, true, true, true, true, true, true, true, true, true, true, true, true, true, true, true, true, false, false, false, false, false, false, false] rfl rfl (by kernel_rfl) (fun _ _ _ h => h) (Or.inr ⟨by rfl, rfl⟩) ?_ ?_
            rotate_left
            · simp only [Act.put, List.setIfInBounds_toArray, List.set_cons_zero, List.set_cons_succ, i64_w, i32_w]
              rfl
            refine pure_ (i := 20) (N := some 57) (v := undef) (a' := ?_) #[true, true, true, true, true, true, true, true, true, true, true, true, true, true, true, true, true, true, true, true, true, false, false, false, false, false, false] rfl rfl (by kernel_rfl) (fun _ _ _ h => h) (Or.inr ⟨by rfl, rfl⟩) ?_ ?_
            rotate_left
            · simp only [Act.put, List.setIfInBounds_toArray, List.set_cons_zero, List.set_cons_succ, i64_w, i32_w]
              rfl
            refine pure_ (i := 21) (N := some 58) (v := undef) (a' := ?_) #[true, true, true, true, true, true, true, true, true, true, true, true, true, true, true, true, true, true, true, true, true, true, false, false, false, false, false] rfl rfl (by kernel_rfl) (fun _ _ _ h => h) (Or.inr ⟨by rfl, rfl⟩) ?_ ?_
            rotate_left
            · simp only [Act.put, List.setIfInBounds_toArray, List.set_cons_zero, List.set_cons_succ, i64_w, i32_w]
              rfl
            refine pure_ (i := 22) (N := some 59) (v := undef) (a' := ?_) #[true, true, true, true, true, true, true, true, true, true, true, true, true, true, true, true, true, true, true, true, true, true, true, false, false, false, false] rfl rfl (by kernel_rfl) (fun _ _ _ h => h) (Or.inr ⟨by rfl, rfl⟩) ?_ ?_
            rotate_left
            · simp only [Act.put, List.setIfInBounds_toArray, List.set_cons_zero, List.set_cons_succ, i64_w, i32_w]
              rfl
            refine pure_ (i := 23) (N := some 60) (v := undef) (a' := ?_) #[true, true, true, true, true, true, true, true, true, true, true, true, true, true, true, true, true, true, true, true, true, true, true, true, false, false, false] rfl rfl (by kernel_rfl) (fun _ _ _ h => h) (Or.inr ⟨by rfl, rfl⟩) ?_ ?_
            rotate_left
            · simp only [Act.put, List.setIfInBounds_toArray, List.set_cons_zero, List.set_cons_succ, i64_w, i32_w]
              rfl
            refine pure_ (i := 24) (N := some 61) (v := undef) (a' := ?_) #[true, true, true, true, true, true, true, true, true, true, true, true, true, true, true, true, true, true, true, true, true, true, true, true, true, false, false] rfl rfl (by kernel_rfl) (fun _ _ _ h => h) (Or.inr ⟨by rfl, rfl⟩) ?_ ?_
            rotate_left
            · simp only [Act.put, List.setIfInBounds_toArray, List.set_cons_zero, List.set_cons_succ, i64_w, i32_w]
              rfl
            refine pure_ (i := 25) (N := some 62) (v := ?_) (a' := ?_) #[true, true, true, true, true, true, true, true, true, true, true, true, true, true, true, true, true, true, true, true, true, true, true, true, true, true, false] rfl rfl (by kernel_rfl) (fun _ _ _ h => h) (Or.inl ⟨by rfl, ?_⟩) ?_ ?_
            rotate_left
            · intro w'
              go_simp
              with_reducible rfl
            rotate_left
            · simp only [Act.put, List.setIfInBounds_toArray, List.set_cons_zero, List.set_cons_succ, i64_w, i32_w]
              rfl
            refine pure_ (i := 26) (N := some 63) (v := ?_) (a' := ?_) #[true, true, true, true, true, true, true, true, true, true, true, true, true, true, true, true, true, true, true, true, true, true, true, true, true, true, true] rfl rfl (by kernel_rfl) (fun _ _ _ h => h) (Or.inl ⟨by rfl, ?_⟩) ?_ ?_
            rotate_left
            · intro w'
              go_simp
              with_reducible rfl
            rotate_left
            · simp only [Act.put, List.setIfInBounds_toArray, List.set_cons_zero, List.set_cons_succ, i64_w, i32_w]
              rfl
            refine done_ (by kernel_rfl) ?_
            go_wp2
            go_roundw
            case rel =>
              exact ⟨k + 1, by omega, rfl, ⟨hHeld.1⟩, ⟨hHeld.2.1⟩⟩
            case measure => simp only [intOf]; omega
        · have hd0 : decide ((k : Int) < ((nb + 40 : Nat) : Int)) = false := decide_eq_false (by omega)
          have hd1 : decide (k < nb + 40) = false := decide_eq_false hlt
          have hd5 : decide ((k : Int) < (nb : Int) + 40) = false := decide_eq_false (by omega)
          clear hlt hk
          go_wp2
          exact ⟨⟨1 + 1, by omega, rfl, HBq⟩, by simp [intOf]⟩
    | 2, _ =>
      go_wp2
      go_ret
      exact ⟨rfl, HBe.out⟩

end Go.Proofs.YtgebfcdpbeaknaaGreatDoor.X
end

/-! #### X26 -/
section

namespace Go.Proofs.YtgebfcdpbeaknaaGreatDoor.X
open Go.RowKit Go.Proofs.YtgebfcdpbeaknaaGreatDoorW.PrintWords Go.Proofs.YtgebfcdpbeaknaaGreatDoorW.PrintLast Go.Proofs.YtgebfcdpbeaknaaGreatDoorW.PrintMore
attribute [local go_sem] max2_int min2_int max_two min_two max_three min_three max_four min_four   -- for this text's walks alone
set_option linter.unusedVariables false
set_option linter.unusedSimpArgs false

/-! ### assayerlaw01_Book_keepToken: function 17 -/
-- by hand: law01_keepToken.tpl
open Go.Proofs.YtgebfcdpbeaknaaGreatDoor.Bk
def Bk_keepToken.f : Option Unit := some ()
set_option maxHeartbeats 2000000 in
set_option maxRecDepth 100000 in
theorem Bk_keepToken.calls (base : Nat) (w : World) (kb : Nat) (n : Int) (At : Option Addr) (m ct : Nat) (xs : List Value) (A : Option Addr) (len c : Nat) (hbase : base ≤ w.heap.size) (hkb : base ≤ kb) (hm : m ≤ 100) (hn : 0 ≤ n ∧ n ≤ 100) (hL : Lies w kb n (.slice At m ct)) (hO : w.ownsRow base 63 3 (.slice At m ct) m xs) :
    Calls Tryz.prog 17 #[.pointer (some ⟨kb, 0, none⟩), .slice A len c] w fun e w' => e = .returned (.tuple #[]) ∧ ∃ A1 c1, Lies w' kb (n + 1) (.slice A1 (m + 1) c1) ∧
      w'.ownsRow base 63 3 (.slice A1 (m + 1) c1) (m + 1) (xs ++ [.slice A len c, .slice none 0 0, .int .i64 (n + 1)]) ∧ Below base w w' ∧ ∀ b, b < w.heap.size → b ≠ kb → some b ≠ (Value.slice At m ct).ownBlock → w'.heap[b]? = w.heap[b]? := by
  have hbk : w.heap[kb]? = _ := hL
  have h0 : w.cell? ⟨kb, 0, none⟩ = some (.int .i64 n) := by simp [World.cell?, hbk]
  have h6 : w.cell? ⟨kb, 6, none⟩ = some (.slice At m ct) := by simp [World.cell?, hbk]
  have hf : ∀ j, w.frozen? ⟨kb, j, none⟩ = false := fun j => by simp [World.frozen?, hbk]
  have hw64 : wrap64 (n + 1) = n + 1 := by unfold wrap64; omega
  have hkn : some kb ≠ (Value.slice At m ct).ownBlock := own_ne hO hbk (by decide)
  obtain ⟨W0, hW0⟩ : ∃ W, W = w.setCell ⟨kb, 0, none⟩ (.int .i64 (n + 1)) := ⟨_, rfl⟩
  have hL0 : W0.heap[kb]? = some (.cells #[.int .i64 (n + 1), .slice none 0 0, .slice none 0 0, .slice none 0 0, .slice none 0 0, .slice none 0 0, .slice At m ct, .slice none 0 0, .slice none 0 0, .slice none 0 0, .slice none 0 0, .slice none 0 0, .slice none 0 0] 40 (0, 0)) := by
    rw [hW0]; simp [World.setCell, Array.getElem?_modify, hbk]
  have hO0 : W0.ownsRow base 63 3 (.slice At m ct) m xs := by rw [hW0]; exact own_setCell hO (p := ⟨kb, 0, none⟩) hkn _
  have hB0 : Below base w W0 := by rw [hW0]; exact (Below.refl base w).setCell (p := ⟨kb, 0, none⟩) hkb _
  have hfar : ∀ b, b ≠ kb → W0.heap[b]? = w.heap[b]? := fun b hb => by rw [hW0]; exact Below.heap_setCell w ⟨kb, 0, none⟩ _ b hb
  have hc0 : W0.cell? ⟨kb, 0, none⟩ = some (.int .i64 (n + 1)) := by simp [World.cell?, hL0]
  have hc6 : W0.cell? ⟨kb, 6, none⟩ = some (.slice At m ct) := by simp [World.cell?, hL0]
  have hf0 : ∀ j, W0.frozen? ⟨kb, j, none⟩ = false := fun j => by simp [World.frozen?, hL0]
  have hs0 : W0.heap.size = w.heap.size := by rw [hW0]; simp
  have hinfo : (Tryz.prog.info? 63).map (fun i => (i.zero, i.size, i.bytes)) = some (some (.agg #[.slice none 0 0, .slice none 0 0, .int .i64 0]), 3, 56) := by kernel_rfl
  have HL0 := Aside0.mk hL0
  have HO0 := Aside0.mk hO0
  have HB0 := Aside0.mk hB0
  have HF0 := Aside0.mk hfar
  have HW0 := Aside0.mk hW0
  have HS0 := Aside0.mk hs0
  clear hbk hL hO hL0 hO0 hB0 hfar hW0 hs0
  go_enter Tryz.func17, Tryz.ntmps17
  go_wp2_with fail
  rw [← HW0.out]
  clear h0 h6 hf
  refine start_ (n := 16) (S := fun w' => w'.cell? ⟨kb, 6, none⟩ = some (.slice At m ct) ∧ w'.cell? ⟨kb, 0, none⟩ = some (.int .i64 (n + 1))) (ds := [15]) #[false, false, false, false, false, false, false, false, false, false, false, false, false, false, false, false] (by kernel_rfl) rfl rfl ⟨hc6, hc0⟩ (fun hHeld => ?_)
  refine pure_ (i := 0) (N := some 11) (v := ?_) (a' := ?_) #[true, false, false, false, false, false, false, false, false, false, false, false, false, false, false, false] rfl rfl (by kernel_rfl) (fun _ _ _ h => h) (Or.inl ⟨by rfl, ?_⟩) ?_ ?_
  rotate_left
  · intro w'
    go_simp
    with_reducible rfl
  rotate_left
  · simp only [Act.put, List.setIfInBounds_toArray, List.set_cons_zero, List.set_cons_succ, i64_w, i32_w]
    rfl
  refine pure_ (i := 1) (N := some 12) (v := ?_) (a' := ?_) #[true, true, false, false, false, false, false, false, false, false, false, false, false, false, false, false] rfl rfl (by kernel_rfl) (fun _ _ _ h => h) (Or.inl ⟨by rfl, ?_⟩) ?_ ?_
  rotate_left
  · intro w'
    go_simp
    with_reducible rfl
  rotate_left
  · simp only [Act.put, List.setIfInBounds_toArray, List.set_cons_zero, List.set_cons_succ, i64_w, i32_w]
    rfl
  refine pure_ (i := 2) (N := some 13) (v := ?_) (a' := ?_) #[true, true, true, false, false, false, false, false, false, false, false, false, false, false, false, false] rfl rfl (by kernel_rfl) (fun _ _ _ h => h) (Or.inl ⟨by rfl, ?_⟩) ?_ ?_
  rotate_left
  · intro w'
    go_simp
    with_reducible rfl
  rotate_left
  · simp only [Act.put, List.setIfInBounds_toArray, List.set_cons_zero, List.set_cons_succ, i64_w, i32_w]
    rfl
  refine pure_ (i := 3) (N := some 14) (v := ?_) (a' := ?_) #[true, true, true, true, false, false, false, false, false, false, false, false, false, false, false, false] rfl rfl (by kernel_rfl) (fun _ _ _ h => h) (Or.inl ⟨by rfl, ?_⟩) ?_ ?_
  rotate_left
  · intro w'
    go_simp
    with_reducible rfl
  rotate_left
  · simp only [Act.put, List.setIfInBounds_toArray, List.set_cons_zero, List.set_cons_succ, i64_w, i32_w]
    rfl
  refine pure_ (i := 5) (N := some 16) (v := ?_) (a' := ?_) #[true, true, true, true, false, true, false, false, false, false, false, false, false, false, false, false] rfl rfl (by kernel_rfl) (fun _ _ _ h => h) (Or.inl ⟨by rfl, ?_⟩) ?_ ?_
  rotate_left
  · intro w'
    go_simp
    with_reducible rfl
  rotate_left
  · simp only [Act.put, List.setIfInBounds_toArray, List.set_cons_zero, List.set_cons_succ, i64_w, i32_w]
    rfl
  refine pure_ (i := 6) (N := some 17) (v := ?_) (a' := ?_) #[true, true, true, true, false, true, true, false, false, false, false, false, false, false, false, false] rfl rfl (by kernel_rfl) (fun _ _ _ h => h) (Or.inl ⟨by rfl, ?_⟩) ?_ ?_
  rotate_left
  · intro w'
    go_simp
    with_reducible rfl
  rotate_left
  · simp only [Act.put, List.setIfInBounds_toArray, List.set_cons_zero, List.set_cons_succ, i64_w, i32_w]
    rfl
  refine pure_ (i := 7) (N := some 18) (v := ?_) (a' := ?_) #[true, true, true, true, false, true, true, true, false, false, false, false, false, false, false, false] rfl rfl (by kernel_rfl) (fun _ _ _ h => h) (Or.inl ⟨by rfl, ?_⟩) ?_ ?_
  rotate_left
  · intro w'
    go_simp
    with_reducible rfl
  rotate_left
  · simp only [Act.put, List.setIfInBounds_toArray, List.set_cons_zero, List.set_cons_succ, i64_w, i32_w]
    rfl
  refine pure_ (i := 8) (N := some 19) (v := ?_) (a' := ?_) #[true, true, true, true, false, true, true, true, true, false, false, false, false, false, false, false] rfl rfl (by kernel_rfl) (fun _ _ _ h => h) (Or.inl ⟨by rfl, ?_⟩) ?_ ?_
  rotate_left
  · intro w'
    go_simp
    with_reducible rfl
  rotate_left
  · simp only [Act.put, List.setIfInBounds_toArray, List.set_cons_zero, List.set_cons_succ, i64_w, i32_w]
    rfl
  refine take_ (i := 4) (N := some 15) (v := ?_) (a' := ?_) #[true, true, true, true, true, true, true, true, true, false, false, false, false, false, false, false] rfl rfl (by kernel_rfl) (fun _ _ _ h => h) (Or.inl ⟨by rfl, ?_⟩) hHeld ?_ ?_
  rotate_left
  · rintro w' ⟨s0, s1⟩
    go_simp
    with_reducible rfl
  rotate_left
  · simp only [Act.put, List.setIfInBounds_toArray, List.set_cons_zero, List.set_cons_succ, i64_w, i32_w]
    rfl
  refine take_ (i := 9) (N := some 20) (v := ?_) (a' := ?_) #[true, true, true, true, true, true, true, true, true, true, false, false, false, false, false, false] rfl rfl (by kernel_rfl) (fun _ _ _ h => h) (Or.inl ⟨by rfl, ?_⟩) hHeld ?_ ?_
  rotate_left
  · rintro w' ⟨s0, s1⟩
    go_simp
    with_reducible rfl
  rotate_left
  · simp only [Act.put, List.setIfInBounds_toArray, List.set_cons_zero, List.set_cons_succ, i64_w, i32_w]
    rfl
  refine pure_ (i := 10) (N := some 21) (v := ?_) (a' := ?_) #[true, true, true, true, true, true, true, true, true, true, true, false, false, false, false, false] rfl rfl (by kernel_rfl) (fun _ _ _ h => h) (Or.inl ⟨by rfl, ?_⟩) ?_ ?_
  rotate_left
  · intro w'
    go_simp
    with_reducible rfl
  rotate_left
  · simp only [Act.put, List.setIfInBounds_toArray, List.set_cons_zero, List.set_cons_succ, i64_w, i32_w]
    rfl
  refine one_ (i := 11) (N := some 22) #[true, true, true, true, true, true, true, true, true, true, true, true, false, false, false, false] rfl rfl (by kernel_rfl) (by decide) (fun K hK => ?_)
  refine value_ (w1 := ?_) (v := ?_) (by rfl) rfl ?_ ?_
  rotate_left 2
  · go_simp
    constructor
    · rfl
    · rfl
  refine hK.out _ _ ⟨(pw_cell_below (below_alloc (Below.refl _ _) _) hHeld.1), (pw_cell_below (below_alloc (Below.refl _ _) _) hHeld.2)⟩ (fun hHeld => ?_)
  clear hK K
  refine norm_ (a' := ?_) ?_ ?_
  rotate_left
  · show Act.put _ (some 22) _ = _
    simp only [Act.put, List.setIfInBounds_toArray, List.set_cons_zero, List.set_cons_succ, i64_w, i32_w]
    rfl
  refine one_ (i := 12) (N := some 23) #[true, true, true, true, true, true, true, true, true, true, true, true, true, false, false, false] rfl rfl (by kernel_rfl) (by decide) (fun K hK => ?_)
  refine step_append_cells (w0 := w) (W := W0.drew) base rfl (.tmp 15) (.tmp 22) 32 63 (.agg #[.slice none 0 0, .slice none 0 0, .int .i64 0]) 3 56 rfl Tryz.underlying32 hinfo rfl (by decide) (by decide) _ m xs [.slice A len c, .slice none 0 0, .int .i64 (n + 1)] rfl rfl rfl (by simp [Value.oneCell']) HO0.out (below_drew HB0.out) (show base ≤ W0.heap.size by rw [HS0.out]; exact hbase) (by omega) ?_
  intro v1 w1 ho hb hg hat
  obtain ⟨A1, c1, rfl⟩ := own_slice ho
  have HG := Aside0.mk hg
  have HO1 := Aside0.mk ho
  have HB1 := Aside0.mk hb
  have hy6 : w1.cell? ⟨kb, 6, none⟩ = some (.slice At m ct) := World.grownBy.cell hg hc6 hkn
  have hyf : w1.frozen? ⟨kb, 6, none⟩ = false := (World.frozen?_of_block (a := ⟨kb, 6, none⟩) (hg.block kb (show kb < W0.drew.heap.size from (Array.getElem?_eq_some_iff.1 HL0.out).1) hkn)).trans (hf0 6)
  refine hK.out _ _ ⟨hy6, (World.grownBy.cell hg hc0 hkn)⟩ (fun hHeld => ?_)
  clear hK K
  refine norm_ (a' := ?_) ?_ ?_
  rotate_left
  · show Act.put _ (some 23) _ = _
    simp only [Act.put, List.setIfInBounds_toArray, List.set_cons_zero, List.set_cons_succ, i64_w, i32_w]
    rfl
  refine pure_ (i := 13) (N := some 24) (v := ?_) (a' := ?_) #[true, true, true, true, true, true, true, true, true, true, true, true, true, true, false, false] rfl rfl (by kernel_rfl) (fun _ _ _ h => h) (Or.inl ⟨by rfl, ?_⟩) ?_ ?_
  rotate_left
  · intro w'
    go_simp
    with_reducible rfl
  rotate_left
  · simp only [Act.put, List.setIfInBounds_toArray, List.set_cons_zero, List.set_cons_succ, i64_w, i32_w]
    rfl
  refine pure_ (i := 14) (N := some 25) (v := ?_) (a' := ?_) #[true, true, true, true, true, true, true, true, true, true, true, true, true, true, true, false] rfl rfl (by kernel_rfl) (fun _ _ _ h => h) (Or.inl ⟨by rfl, ?_⟩) ?_ ?_
  rotate_left
  · intro w'
    go_simp
    with_reducible rfl
  rotate_left
  · simp only [Act.put, List.setIfInBounds_toArray, List.set_cons_zero, List.set_cons_succ, i64_w, i32_w]
    rfl
  refine last_ (i := 15) (N := none) #[true, true, true, true, true, true, true, true, true, true, true, true, true, true, true, true] rfl rfl (by kernel_rfl) (by decide) (fun K hK => ?_)
  refine skip_ (w1 := ?_) (by rfl) rfl ?_ ?_
  rotate_left
  · go_simp
    rfl
  refine hK.out _ _ ?_
  clear hK K
  refine done_ (by kernel_rfl) ?_
  go_wp2
  have hk1 : w1.heap[kb]? = _ := (HG.out.block kb (show kb < W0.drew.heap.size from (Array.getElem?_eq_some_iff.1 HL0.out).1) hkn).trans HL0.out
  have hne1 : some kb ≠ (Value.slice A1 (m + 1) c1).ownBlock := own_ne HO1.out hk1 (by decide)
  go_end0
  refine ⟨rfl, A1, c1, ?_, own_setCell HO1.out (p := ⟨kb, 6, none⟩) hne1 _, HB1.out.setCell (p := ⟨kb, 6, none⟩) hkb _, fun b hb hbk hbn => ?_⟩
  · show (w1.setCell ⟨kb, 6, none⟩ (.slice A1 (m + 1) c1)).heap[kb]? = _
    simp [World.setCell, Array.getElem?_modify, hk1]
  · rw [Below.heap_setCell w1 ⟨kb, 6, none⟩ _ b hbk]
    exact (HG.out.block b (show b < W0.heap.size by rw [HS0.out]; exact hb) hbn).trans (HF0.out b hbk)

end Go.Proofs.YtgebfcdpbeaknaaGreatDoor.X
end

/-! #### BookApart -/
section
set_option linter.unusedVariables false
set_option linter.unusedSimpArgs false
namespace Go.Proofs.YtgebfcdpbeaknaaGreatDoor.Bk
open Go Go.RowKit Go.Proofs.YtgebfcdpbeaknaaGreatDoor.X Go.Proofs.YtgebfcdpbeaknaaGreatDoorW.PrintWords Go.Proofs.YtgebfcdpbeaknaaGreatDoorW.PrintLast
attribute [local go_sem] Oper.semAt_some
theorem Two.drewN {w : World} {kb tb : Nat} {n : Int} {cap : Nat} {va sa vb sb : Value} (h : Two w kb tb n cap va sa vb sb) (m : Nat) : Two (w.drewN m) kb tb n cap va sa vb sb := h.move rfl rfl
set_option maxHeartbeats 4000000 in
set_option maxRecDepth 100000 in
theorem Apart.calls (base : Nat) (w : World) (kb tb : Nat) (n : Int) (cap : Nat) (Aa : Option Addr) (na ca : Nat) (Ab : Option Addr) (nb cb : Nat) (xa xb : List Value) (hna : na ≤ 1000000) (hnb : nb ≤ 1000000) (hbase : base ≤ w.heap.size) (htb : base ≤ tb) (hT : Two w kb tb n cap (.slice Aa na ca) (.slice none 0 0) (.slice Ab nb cb) (.slice none 0 0))
    (ha : w.ownsRow base 52 3 (.slice Aa na ca) na xa) (hb : w.ownsRow base 52 3 (.slice Ab nb cb) nb xb) (hne : (Value.slice Aa na ca).ownBlock = none ∨ (Value.slice Aa na ca).ownBlock ≠ (Value.slice Ab nb cb).ownBlock) :
    Calls Tryz.prog 8 #[.pointer (some ⟨kb, 0, none⟩)] w fun e w' => e = .returned (.bool true) ∧ Below base w w' := by
  have HT := Aside0.mk hT
  have HA := Aside0.mk ha
  have HB := Aside0.mk hb
  clear hT ha hb
  go_enter Tryz.func8, Tryz.ntmps8
  go_wp2_with fail
  refine (fillByte.idle (by exact HT.out.book)).mono ?_
  rintro e z1 ⟨rfl, ⟨m1, rfl⟩⟩
  go_wp2_with fail
  refine (fillInt32.idle (by exact HT.out.book)).mono ?_
  rintro e z2 ⟨rfl, ⟨m2, rfl⟩⟩
  go_wp2_with fail
  refine (fillNum.idle (by exact HT.out.book)).mono ?_
  rintro e z3 ⟨rfl, ⟨m3, rfl⟩⟩
  go_wp2_with fail
  refine (fillBool.idle (by exact HT.out.book)).mono ?_
  rintro e z4 ⟨rfl, ⟨m4, rfl⟩⟩
  go_wp2_with fail
  refine (fillText.idle (by exact HT.out.book)).mono ?_
  rintro e z5 ⟨rfl, ⟨m5, rfl⟩⟩
  go_wp2_with fail
  refine (Bk_fillToken.calls base _ kb tb n cap Aa na ca Ab nb cb xa xb (by exact hbase) (by exact HT.out.drewN _) (by exact HA.out) (by exact HB.out) hne).mono ?_
  rintro e w1 ⟨rfl, hT1, hA1, hB1, hbe1⟩
  have HT1 := Aside0.mk hT1
  have HA1 := Aside0.mk hA1
  have HB1 := Aside0.mk hB1
  have HE1 := Aside0.mk (show Below base w w1 from (pw_below_drewN (Below.refl base w) _).trans hbe1)
  have hbs1 : base ≤ w1.heap.size := Nat.le_trans hbase HE1.out.size
  clear hT1 hA1 hB1 hbe1 HT HA HB
  go_wp2_with fail
  refine (fillTenant.idle (by exact HT1.out.book)).mono ?_
  rintro e z6 ⟨rfl, ⟨m6, rfl⟩⟩
  go_wp2_with fail
  refine (fillRat.idle (by exact HT1.out.book)).mono ?_
  rintro e z7 ⟨rfl, ⟨m7, rfl⟩⟩
  go_wp2_with fail
  refine (fillVar.idle (by exact HT1.out.book)).mono ?_
  rintro e z8 ⟨rfl, ⟨m8, rfl⟩⟩
  go_wp2_with fail
  refine (fillRow.idle (by exact HT1.out.book)).mono ?_
  rintro e z9 ⟨rfl, ⟨m9, rfl⟩⟩
  go_wp2_with fail
  refine (fillNode.idle (by exact HT1.out.book)).mono ?_
  rintro e z10 ⟨rfl, ⟨m10, rfl⟩⟩
  go_wp2_with fail
  refine (fillJob.idle (by exact HT1.out.book)).mono ?_
  rintro e z11 ⟨rfl, ⟨m11, rfl⟩⟩
  go_wp2_with fail
  refine (growByte.idle (by exact HT1.out.book)).mono ?_
  rintro e z12 ⟨rfl, ⟨m12, rfl⟩⟩
  go_wp2_with fail
  refine (growInt32.idle (by exact HT1.out.book)).mono ?_
  rintro e z13 ⟨rfl, ⟨m13, rfl⟩⟩
  go_wp2_with fail
  refine (growNum.idle (by exact HT1.out.book)).mono ?_
  rintro e z14 ⟨rfl, ⟨m14, rfl⟩⟩
  go_wp2_with fail
  refine (growBool.idle (by exact HT1.out.book)).mono ?_
  rintro e z15 ⟨rfl, ⟨m15, rfl⟩⟩
  go_wp2_with fail
  refine (growText.idle (by exact HT1.out.book)).mono ?_
  rintro e z16 ⟨rfl, ⟨m16, rfl⟩⟩
  go_wp2_with fail
  refine (Bk_growToken.calls base _ kb tb n cap Aa na ca Ab nb cb hna hnb (by exact hbs1) htb (by exact HT1.out.drewN _) (by exact HA1.out) (by exact HB1.out) hne).mono ?_
  rintro e w2 ⟨rfl, As, cs, Bs, ds, hT2, hSA, hSB, hRA, hRB, hbe2⟩
  have HT2 := Aside0.mk hT2
  have HRA := Aside0.mk hRA
  have HRB := Aside0.mk hRB
  have HSA := Aside0.mk hSA
  have HSB := Aside0.mk hSB
  have hAa := own_addr HA1.out
  have hAb := own_addr HB1.out
  have HE2 := Aside0.mk (show Below base w w2 from (pw_below_drewN HE1.out _).trans hbe2)
  have hAs : ∃ g, As = some ⟨g, 0, none⟩ := (own_addr hSA).resolve_left (by omega)
  have hBs : ∃ g, Bs = some ⟨g, 0, none⟩ := (own_addr hSB).resolve_left (by omega)
  have HQA := Aside0.mk (RD_of_own (k := 0) (c := cs) (A := As) hSA (.inr hAs) rfl)
  have HQB := Aside0.mk (RD_of_own (k := 0) (c := ds) (A := Bs) hSB (.inr hBs) rfl)
  clear hT2 hSA hSB hRA hRB hbe2 HT1 HA1 HB1 HE1
  go_wp2_with fail
  refine (growTenant.idle (by exact HT2.out.book)).mono ?_
  rintro e z17 ⟨rfl, ⟨m17, rfl⟩⟩
  go_wp2_with fail
  refine (growRat.idle (by exact HT2.out.book)).mono ?_
  rintro e z18 ⟨rfl, ⟨m18, rfl⟩⟩
  go_wp2_with fail
  refine (growVar.idle (by exact HT2.out.book)).mono ?_
  rintro e z19 ⟨rfl, ⟨m19, rfl⟩⟩
  go_wp2_with fail
  refine (growRow.idle (by exact HT2.out.book)).mono ?_
  rintro e z20 ⟨rfl, ⟨m20, rfl⟩⟩
  go_wp2_with fail
  refine (growNode.idle (by exact HT2.out.book)).mono ?_
  rintro e z21 ⟨rfl, ⟨m21, rfl⟩⟩
  go_wp2_with fail
  refine (growJob.idle (by exact HT2.out.book)).mono ?_
  rintro e z22 ⟨rfl, ⟨m22, rfl⟩⟩
  go_wp2_with fail
  refine (lookByte.idle (by exact HT2.out.book)).mono ?_
  rintro e z23 ⟨rfl, ⟨m23, rfl⟩⟩
  go_wp2_with fail
  refine (lookInt32.idle (by exact HT2.out.book)).mono ?_
  rintro e z24 ⟨rfl, ⟨m24, rfl⟩⟩
  go_wp2_with fail
  refine (lookNum.idle (by exact HT2.out.book)).mono ?_
  rintro e z25 ⟨rfl, ⟨m25, rfl⟩⟩
  go_wp2_with fail
  refine (lookBool.idle (by exact HT2.out.book)).mono ?_
  rintro e z26 ⟨rfl, ⟨m26, rfl⟩⟩
  go_wp2_with fail
  refine (lookText.idle (by exact HT2.out.book)).mono ?_
  rintro e z27 ⟨rfl, ⟨m27, rfl⟩⟩
  go_wp2_with fail
  refine (Bk_lookToken.calls _ kb tb n cap Aa na ca As cs Ab nb cb Bs ds hna hnb (by exact HT2.out.drewN _) (by exact HRA.out) (by exact HRB.out) (by exact HQA.out) (by exact HQB.out) hAa hAb hAs hBs).mono ?_
  rintro e w3 ⟨rfl, hbe3⟩
  have HT3 := Aside0.mk ((HT2.out.drewN _).below hbe3)
  have HE3 := Aside0.mk (show Below base w w3 from below_then (pw_below_drewN HE2.out _) (by exact Nat.le_trans hbase HE2.out.size) hbe3)
  clear hbe3 HT2 HRA HRB HSA HSB HQA HQB HE2
  go_wp2_with fail
  refine (lookTenant.idle (by exact HT3.out.book)).mono ?_
  rintro e z28 ⟨rfl, ⟨m28, rfl⟩⟩
  go_wp2_with fail
  refine (lookRat.idle (by exact HT3.out.book)).mono ?_
  rintro e z29 ⟨rfl, ⟨m29, rfl⟩⟩
  go_wp2_with fail
  refine (lookVar.idle (by exact HT3.out.book)).mono ?_
  rintro e z30 ⟨rfl, ⟨m30, rfl⟩⟩
  go_wp2_with fail
  refine (lookRow.idle (by exact HT3.out.book)).mono ?_
  rintro e z31 ⟨rfl, ⟨m31, rfl⟩⟩
  go_wp2_with fail
  refine (lookNode.idle (by exact HT3.out.book)).mono ?_
  rintro e z32 ⟨rfl, ⟨m32, rfl⟩⟩
  go_wp2_with fail
  refine (lookJob.idle (by exact HT3.out.book)).mono ?_
  rintro e z33 ⟨rfl, ⟨m33, rfl⟩⟩
  go_wp2
  go_ret
  exact ⟨rfl, by repeat (first | exact HE3.out | apply pw_below_drewN)⟩
end Go.Proofs.YtgebfcdpbeaknaaGreatDoor.Bk
end

/-! #### X2 -/
section

namespace Go.Proofs.YtgebfcdpbeaknaaGreatDoor.X
open Go.RowKit Go.Proofs.YtgebfcdpbeaknaaGreatDoorW.PrintWords Go.Proofs.YtgebfcdpbeaknaaGreatDoorW.PrintLast Go.Proofs.YtgebfcdpbeaknaaGreatDoorW.PrintMore
attribute [local go_sem] max2_int min2_int max_two min_two max_three min_three max_four min_four   -- for this text's walks alone
set_option linter.unusedVariables false
set_option linter.unusedSimpArgs false

/-! ### tokens_cutLeft: function 57 -/
-- by hand: tokens_cutLeft.tpl
def tokens_cutLeft.mem (set : ByteArray) (c : Int) : Nat → Nat → Bool → Bool
  | 0, _, acc => acc
  | b + 1, pos, acc => if pos < set.size then tokens_cutLeft.mem set c b (pos + (Utf8.decode set pos).2) (acc || (c == ((Utf8.decode set pos).1 : Int))) else acc
def tokens_cutLeft.go (s set : ByteArray) : Nat → Nat → ByteArray
  | 0, _ => ⟨#[]⟩
  | b + 1, pos => if pos < s.size then (if tokens_cutLeft.mem set ((Utf8.decode s pos).1 : Int) set.size 0 false = true then tokens_cutLeft.go s set b (pos + (Utf8.decode s pos).2) else s.extract pos s.size) else ⟨#[]⟩
def tokens_cutLeft.f (a0 a1 : ByteArray) : Option (ByteArray) := some (tokens_cutLeft.go a0 a1 a0.size 0)
theorem tokens_cutLeft.width (s : ByteArray) (pos : Nat) (h : pos < s.size) : 1 ≤ (Utf8.decode s pos).2 := by
  by_cases ha : (s[pos]'h).toNat < 128
  · rw [decode_ascii s pos h ha]
    exact Nat.le_refl _
  · exact (decode_high s pos h (by omega)).2
theorem tokens_cutLeft.mem_end (set : ByteArray) (c : Int) (b pos : Nat) (acc : Bool) (h : ¬ pos < set.size) : tokens_cutLeft.mem set c b pos acc = acc := by
  cases b with
  | zero => rfl
  | succ b => simp [tokens_cutLeft.mem, h]
theorem tokens_cutLeft.go_end (s set : ByteArray) (b pos : Nat) (h : ¬ pos < s.size) : tokens_cutLeft.go s set b pos = ⟨#[]⟩ := by
  cases b with
  | zero => rfl
  | succ b => simp [tokens_cutLeft.go, h]
set_option maxHeartbeats 4000000 in
set_option maxRecDepth 100000 in
theorem tokens_cutLeft.calls (a0 a1 : ByteArray) (r : ByteArray) (w : World) (h : tokens_cutLeft.f a0 a1 = some r) :
    Calls Tryz.prog 57 #[.string a0, .string a1] w fun e w' => e = .returned (.string r) ∧ Below w.heap.size w w' := by
  have h := Option.some.inj h
  have H := Aside0.mk h
  clear h
  go_enter Tryz.func57, Tryz.ntmps57
  go_wp2
  go_loopw [5, 6, 7, 9] (fun _ _ _ _ wr => ∃ (pos b : Nat), wr.heap[w.heap.size]? = some (.stringIter a0 pos) ∧ Aside0 (tokens_cutLeft.go a0 a1 b pos = r) ∧ a0.size ≤ pos + b ∧ Below w.heap.size w wr) (fun _ _ _ _ wr => a0.size - wr.iterPos w.heap.size)
  case atStart => exact ⟨0, a0.size, World.iter_heap w a0 0, H, by omega, (Below.refl _ _).alloc (Nat.le_refl _) _⟩
  case round =>
    obtain ⟨pos, b, hk, hc, hb, hB⟩ := hrel
    have hip : wr.iterPos w.heap.size = pos := iterPos_of hk
    by_cases hp : pos < a0.size
    · have hnx : ∀ ty, (Instr.next (.pointer (some ⟨w.heap.size, 0, none⟩)) true ty).run Tryz.prog wr = _ := fun ty => Lib.run_next_any_at wr w.heap.size a0 pos ty hk hp
      have hwd := tokens_cutLeft.width a0 pos hp
      have HIP := Aside0.mk hip
      clear hip
      go_wp2
      obtain ⟨W1, hW1⟩ : ∃ W1, W1 = wr.iterAt w.heap.size a0 (pos + (Utf8.decode a0 pos).2) := ⟨_, rfl⟩
      rw [← hW1]
      have hB1 : Below w.heap.size w W1 := by rw [hW1]; exact Lib.below_iterAt hB (Nat.le_refl _) _ _
      have hk1 : W1.heap[w.heap.size]? = some (.stringIter a0 (pos + (Utf8.decode a0 pos).2)) := by rw [hW1]; exact Lib.iterAt_heap _ _ _ _ _ hk
      have hlt1 : w.heap.size < W1.heap.size := (Array.getElem?_eq_some_iff.1 hk1).1
      clear hW1 hk hB
      cases b with
      | zero => omega
      | succ b =>
      have hc2 := hc.out
      clear hc
      simp only [tokens_cutLeft.go, hp, if_true] at hc2
      have HC := Aside0.mk hc2
      clear hc2
      go_loopw [7, 9] (fun acc _ wi => ∃ (q d : Nat) (x : Bool), acc = .bool x ∧ wi.heap[W1.heap.size]? = some (.stringIter a1 q) ∧ wi.heap[w.heap.size]? = some (.stringIter a0 (pos + (Utf8.decode a0 pos).2)) ∧ Aside0 (tokens_cutLeft.mem a1 ((Utf8.decode a0 pos).1 : Int) d q x = tokens_cutLeft.mem a1 ((Utf8.decode a0 pos).1 : Int) a1.size 0 false) ∧ a1.size ≤ q + d ∧ Below w.heap.size w wi) (fun _ _ wi => a1.size - wi.iterPos W1.heap.size)
      case atStart => exact ⟨0, a1.size, false, rfl, World.iter_heap W1 a1 0, by rw [World.iter, World.alloc]; simpa [Array.getElem?_push, Nat.ne_of_lt hlt1] using hk1, ⟨rfl⟩, by omega, hB1.alloc hB1.size _⟩
      case round =>
        obtain ⟨q, d, x, rfl, hkq, hk0, HM, hd, hBi⟩ := hrel
        have hiq := Aside0.mk (iterPos_of hkq)
        by_cases hq : q < a1.size
        · have hnx : ∀ ty, (Instr.next (.pointer (some ⟨W1.heap.size, 0, none⟩)) true ty).run Tryz.prog wr = _ := fun ty => Lib.run_next_any_at wr W1.heap.size a1 q ty hkq hq
          have hwq := tokens_cutLeft.width a1 q hq
          have hkn := Aside0.mk (Lib.iterAt_heap wr W1.heap.size a1 q (q + (Utf8.decode a1 q).2) hkq)
          have hkm := Aside0.mk ((Lib.iterAt_other wr W1.heap.size w.heap.size a1 (q + (Utf8.decode a1 q).2) (Nat.ne_of_lt hlt1)).trans hk0)
          cases d with
          | zero => omega
          | succ d =>
          have hm := HM.out
          simp only [tokens_cutLeft.mem, hq, if_true] at hm
          have HM2 := Aside0.mk hm
          clear HM hm
          cases x
          all_goals
            go_wp2
            go_roundw
            case rel => exact ⟨_, d, _, rfl, hkn.out, hkm.out, ⟨by have := HM2.out; simpa using this⟩, by omega, Lib.below_iterAt hBi (Nat.le_of_lt hlt1) _ _⟩
            case measure => rw [iterPos_of hkn.out, hiq.out]; omega
        · have hnx : ∀ ty, (Instr.next (.pointer (some ⟨W1.heap.size, 0, none⟩)) true ty).run Tryz.prog wr = _ := fun ty => Lib.run_next_end_at wr W1.heap.size a1 q ty hkq hq
          have hm := HM.out
          rw [tokens_cutLeft.mem_end a1 _ d q x hq] at hm
          have h2 := HC.out
          rw [← hm] at h2
          have H2 := Aside0.mk h2
          clear HM hm HC h2
          cases x
          · go_wp2
            go_ret
            exact ⟨by rw [← H2.out]; simp, hBi⟩
          · go_wp2
            go_roundw
            case rel => exact ⟨_, b, hk0, ⟨by have := H2.out; simpa using this⟩, by omega, hBi⟩
            case measure => rw [iterPos_of hk0, HIP.out]; omega
    · have hnx : ∀ ty, (Instr.next (.pointer (some ⟨w.heap.size, 0, none⟩)) true ty).run Tryz.prog wr = _ := fun ty => Lib.run_next_end_at wr w.heap.size a0 pos ty hk hp
      have h2 := hc.out
      rw [tokens_cutLeft.go_end a0 a1 b pos hp] at h2
      clear hc
      subst h2
      go_wp2
      go_ret
      exact ⟨rfl, hB⟩

end Go.Proofs.YtgebfcdpbeaknaaGreatDoor.X
end

/-! #### X3 -/
section

namespace Go.Proofs.YtgebfcdpbeaknaaGreatDoor.X
open Go.RowKit Go.Proofs.YtgebfcdpbeaknaaGreatDoorW.PrintWords Go.Proofs.YtgebfcdpbeaknaaGreatDoorW.PrintLast Go.Proofs.YtgebfcdpbeaknaaGreatDoorW.PrintMore
attribute [local go_sem] max2_int min2_int max_two min_two max_three min_three max_four min_four   -- for this text's walks alone
set_option linter.unusedVariables false
set_option linter.unusedSimpArgs false

/-! ### tokens_run: function 12 -/
def tokens_run.f (a0 : ByteArray) (a1 : ByteArray) : Option (Int) := (tokens_cutLeft.f a0 a1).bind fun t101 => (some (wrap64 ((a0.size : Int) - (t101.size : Int))))
set_option maxHeartbeats 8000000 in
set_option maxRecDepth 100000 in
theorem tokens_run.calls (a0 : ByteArray) (a1 : ByteArray) (r : Int) (w : World) (h : tokens_run.f a0 a1 = some r) :
    Calls Tryz.prog 12 #[.string a0, .string a1] w fun e w' => e = .returned (.int .i64 r) ∧ Below w.heap.size w w' := by
  have HB := Aside0.mk (Below.refl w.heap.size w)
  have H : ((tokens_cutLeft.f a0 a1).bind fun t101 => (some (wrap64 ((a0.size : Int) - (t101.size : Int))))) = some r := h
  clear h
  replace H := Option.bind_eq_some_iff.mp H
  obtain ⟨t101, A30, H⟩ := H
  replace H : (some (wrap64 ((a0.size : Int) - (t101.size : Int)))) = some r := H
  have A3 := Aside0.mk A30
  clear A30
  obtain rfl := Option.some.inj H
  go_enter Tryz.func12, Tryz.ntmps12
  go_wp2_with (first | ((with_reducible refine gate_callee (f := 57) rfl ?_); refine goesL_ (some 9) rfl rfl Tryz.func57 (by kernel_rfl) rfl #[.string a0, .string a1] rfl (by (try simp only [List.map_toArray, List.map_cons, List.map_nil]); first | done | rfl | (simp only [List.length_drop, List.length_take]; rfl)) ?_; (with_reducible refine (tokens_cutLeft.calls a0 a1 t101 _ A3.out).mono ?_); rintro e w4 ⟨rfl, hb⟩; refine ⟨_, rfl, ?_⟩; have n0_ := Aside0.mk (below_step (by repeat (first | (with_reducible first | exact HB.out | apply below_alloc | apply pw_below_drewN | apply below_drew1) | exact HB.out)) hb); clear HB; have HB := n0_; clear n0_; (try clear hb); (try clear hb2); (try clear hk); (try clear hi)))
  go_ret
  exact ⟨by first | rfl | (simp [errW_none, errW_some] <;> rfl) | (simp [*, errW_none, errW_some] <;> rfl), by repeat (first | (with_reducible first | exact HB.out | apply below_alloc | apply pw_below_drewN | apply below_drew1) | exact HB.out)⟩

end Go.Proofs.YtgebfcdpbeaknaaGreatDoor.X
end
