/-
  What the ledger's methods do to the ledger that lies: there, Left, Spend.
-/
import Derived.Test.YtgebfcdpbeaknaaLedMem
import Derived.Maps.Own
import Derived.Maps.OwnOps
import Derived.KernelRfl
set_option linter.unusedVariables false
set_option linter.unusedSimpArgs false
namespace Go.Proofs.Ytgebfcdpbeaknaa.Led
open Go Go.RowKit Go.Proofs.Ytgebfcdpbeaknaa.X Go.Proofs.YtgebfcdpbeaknaaW.PrintWords Go.Proofs.YtgebfcdpbeaknaaW.PrintLast Go.MapRaw Go.MapKept
attribute [local go_sem] Oper.semAt_some

theorem LedAt.drewN {base : Nat} {w : World} {pb mb : Nat} {ts : List Ten} {ls : List Int} {bs : List Nat} (h : LedAt base w pb mb ts ls bs) (n : Nat) : LedAt base (w.drewN n) pb mb ts ls bs := ⟨⟨h.accs.len, h.accs.lenl, h.accs.nodup, h.accs.low, h.accs.at_⟩, h.lowp, h.lowm, h.ptr, h.map⟩
theorem LedAt.drew {base : Nat} {w : World} {pb mb : Nat} {ts : List Ten} {ls : List Int} {bs : List Nat} (h : LedAt base w pb mb ts ls bs) : LedAt base w.drew pb mb ts ls bs := ⟨⟨h.accs.len, h.accs.lenl, h.accs.nodup, h.accs.low, h.accs.at_⟩, h.lowp, h.lowm, h.ptr, h.map⟩
theorem LedAt.ptrc {base : Nat} {w : World} {pb mb : Nat} {ts : List Ten} {ls : List Int} {bs : List Nat} (h : LedAt base w pb mb ts ls bs) : w.cell? ⟨pb, 0, none⟩ = some (.map (some mb)) := by simp [World.cell?, h.ptr]

set_option maxHeartbeats 1000000 in
set_option maxRecDepth 100000 in
theorem there.calls {base : Nat} {w : World} {pb mb : Nat} {ts : List Ten} {ls : List Int} {bs : List Nat} (h : LedAt base w pb mb ts ls bs) :
    Calls Try.prog 18 #[.pointer (some ⟨pb, 0, none⟩)] w fun e w' => e = .returned (.bool true) ∧ Drawn0 w w' := by
  have hp := h.ptrc
  have hp' := fun n => (h.drewN n).ptrc
  have hbm : ∀ W, (binOp .neq 44 (.map (some mb)) (.map none)).run Try.prog W = .ok (.bool true) W := fun W => by kernel_rfl
  go_enter Try.func18, Try.ntmps18
  go_wp2
  go_ret
  exact ⟨rfl, ⟨0, rfl⟩⟩

theorem LedAt.cells {base : Nat} {w : World} {pb mb : Nat} {ts : List Ten} {ls : List Int} {bs : List Nat} (h : LedAt base w pb mb ts ls bs) (i : Nat) (h0 : i < ts.length) (h1 : i < bs.length) (h2 : i < ls.length) :
    w.cell? ⟨bs[i], 0, none⟩ = some (.string ts[i].f0) ∧ w.cell? ⟨bs[i], 1, none⟩ = some (.string ts[i].f1) ∧ w.cell? ⟨bs[i], 2, none⟩ = some (.int .i64 ts[i].f2) ∧ w.cell? ⟨bs[i], 3, none⟩ = some (.int .i64 ls[i]) := by
  have := h.accs.at_ i h0 h1 h2
  refine ⟨?_, ?_, ?_, ?_⟩ <;> simp [World.cell?, this]
theorem LedAt.loose {base : Nat} {w : World} {pb mb : Nat} {ts : List Ten} {ls : List Int} {bs : List Nat} (h : LedAt base w pb mb ts ls bs) (i : Nat) (h1 : i < bs.length) (k : Nat) : w.frozen? ⟨bs[i], k, none⟩ = false := by
  have := h.accs.at_ i (by have := h.accs.len; omega) h1 (by have := h.accs.len; have := h.accs.lenl; omega)
  simp [World.frozen?, this]
theorem lk_all {base : Nat} {w : World} {pb mb : Nat} {ts : List Ten} {ls : List Int} {bs : List Nat} (h : LedAt base w pb mb ts ls bs) (q : Int) :
    (Instr.lookup 44 (.map (some mb)) (.int .i64 q) true).run Try.prog w = .ok (if hq : 0 ≤ q ∧ q < (bs.length : Int) then .tuple #[.pointer (some ⟨bs[q.toNat]'(by omega), 0, none⟩), .bool true] else .tuple #[.pointer none, .bool false]) w := by
  have := run_lookup_raw (P := Try.prog) w 44 3 45 Try.underlying44 Try.underlying3 (.pointer none) (by simp [go_sem]) mb (allE bs 0) bs.length h.map (.int .i64 q) rfl (allE_keys bs 0 (.int .i64) (fun _ => rfl)) true
  rw [allE_find] at this
  rw [this]
  by_cases hq : 0 ≤ q ∧ q < (bs.length : Int)
  · rw [dif_pos (by simpa using hq), dif_pos hq]
    simp
  · rw [dif_neg (by simpa using hq), dif_neg hq]
    simp

def leftV (ls : List Int) (q : Int) : Int := if 0 ≤ q ∧ q < (ls.length : Int) then ls.getD q.toNat 0 else 0
def leftE (ls : List Int) (q : Int) : Int := if 0 ≤ q ∧ q < (ls.length : Int) then 0 else 1
set_option maxHeartbeats 1000000 in
set_option maxRecDepth 100000 in
theorem Left.calls {base : Nat} {w : World} {pb mb : Nat} {ts : List Ten} {ls : List Int} {bs : List Nat} (h : LedAt base w pb mb ts ls bs) (q : Int) :
    Calls Try.prog 17 #[.pointer (some ⟨pb, 0, none⟩), .int .i64 q] w fun e w' => e = .returned (.tuple #[.int .i64 (leftV ls q), .int .i64 (leftE ls q)]) ∧ Drawn0 w w' := by
  have hp := h.ptrc
  have hll : bs.length = ls.length := h.accs.len.trans h.accs.lenl.symm
  have HH := Aside0.mk h
  have hp' := fun n => (h.drewN n).ptrc
  have hlk := fun n => lk_all (h.drewN n) q
  clear h
  by_cases hq : 0 ≤ q ∧ q < (bs.length : Int)
  · simp only [dif_pos hq] at hlk
    have h2 : q.toNat < ls.length := by omega
    have hc3 := fun n => ((HH.out.drewN n).cells q.toNat (by have := HH.out.accs.len; omega) (by omega) h2).2.2.2
    go_enter Try.func17, Try.ntmps17
    go_wp2_with (go_at_call 18; refine (there.calls HH.out).mono ?_; rintro e w1 ⟨rfl, ⟨nd, rfl⟩⟩)
    go_ret2
    refine ⟨?_, ⟨nd, rfl⟩⟩
    have e1 : leftV ls q = ls[q.toNat] := by unfold leftV; rw [if_pos (by omega)]; simp [List.getD, h2]
    have e2 : leftE ls q = 0 := by unfold leftE; rw [if_pos (by omega)]
    rw [e1, e2]
    rfl
  · simp only [dif_neg hq] at hlk
    go_enter Try.func17, Try.ntmps17
    go_wp2_with (go_at_call 18; refine (there.calls HH.out).mono ?_; rintro e w1 ⟨rfl, ⟨nd, rfl⟩⟩)
    go_ret2
    refine ⟨?_, ⟨nd, rfl⟩⟩
    have e1 : leftV ls q = 0 := by unfold leftV; rw [if_neg (by omega)]
    have e2 : leftE ls q = 1 := by unfold leftE; rw [if_neg (by omega)]
    rw [e1, e2]
    rfl

/-- what is stored at what is left of one -/
theorem LedAt.store {base : Nat} {w : World} {pb mb : Nat} {ts : List Ten} {ls : List Int} {bs : List Nat} (h : LedAt base w pb mb ts ls bs) (i : Nat) (h1 : i < bs.length) (v : Int) :
    LedAt base (w.setCell ⟨bs[i], 3, none⟩ (.int .i64 v)) pb mb ts (ls.set i v) bs := by
  have h0 : i < ts.length := by have := h.accs.len; omega
  have h2 : i < ls.length := by have := h.accs.lenl; omega
  have hat := h.accs.at_ i h0 h1 h2
  have hne : ∀ r, r ≠ bs[i] → (w.setCell ⟨bs[i], 3, none⟩ (.int .i64 v)).heap[r]? = w.heap[r]? := fun r hr => Below.heap_setCell w ⟨bs[i], 3, none⟩ (.int .i64 v) r hr
  have hp : pb ≠ bs[i] := fun e => by
    have := h.ptr
    rw [e, hat] at this
    injection this with this
    injection this with h3 h4
    exact absurd h4 (by decide)
  have hm : mb ≠ bs[i] := fun e => by
    have := h.map
    rw [e, hat] at this
    cases this
  refine ⟨⟨h.accs.len, by simpa using h.accs.lenl, h.accs.nodup, h.accs.low, fun j hj hj1 hj2 => ?_⟩, h.lowp, h.lowm, (hne _ hp).trans h.ptr, (hne _ hm).trans h.map⟩
  rcases Nat.decEq i j with hij | hij
  · rw [hne _ (fun e => hij ((List.getElem_inj h.accs.nodup).1 e).symm), h.accs.at_ j hj hj1 (by simpa using hj2)]
    simp [hij]
  · subst hij
    have : (w.setCell ⟨bs[i], 3, none⟩ (.int .i64 v)).heap[bs[i]]? = some (.cells ((#[.string ts[i].f0, .string ts[i].f1, .int .i64 ts[i].f2, .int .i64 ls[i]] : Array Value).setIfInBounds 3 (.int .i64 v)) 47 (0, 0)) := by
      simp [World.setCell, Array.getElem?_modify, hat]
    rw [this]
    simp

def spendE (ls : List Int) (q n : Int) : Int := if 0 ≤ q ∧ q < (ls.length : Int) ∧ 0 ≤ n then (if n > ls.getD q.toNat 0 then 3 else 0) else 1
def spendL (ls : List Int) (q n : Int) : List Int := if spendE ls q n = 0 then ls.set q.toNat (wrap64 (ls.getD q.toNat 0 - n)) else ls
set_option maxHeartbeats 1000000 in
set_option maxRecDepth 100000 in
theorem Spend.calls {base : Nat} {w : World} {pb mb : Nat} {ts : List Ten} {ls : List Int} {bs : List Nat} (h : LedAt base w pb mb ts ls bs) (q n : Int) :
    Calls Try.prog 10 #[.pointer (some ⟨pb, 0, none⟩), .int .i64 q, .int .i64 n] w fun e w' => e = .returned (.int .i64 (spendE ls q n)) ∧ LedAt base w' pb mb ts (spendL ls q n) bs ∧ Below base w w' ∧ (spendE ls q n ≠ 0 → Drawn0 w w') := by
  have hp := h.ptrc
  have hll : bs.length = ls.length := h.accs.len.trans h.accs.lenl.symm
  have HH := Aside0.mk h
  have hp' := fun n => (h.drewN n).ptrc
  have hlk := fun n => lk_all (h.drewN n) q
  have HD := Aside0.mk (fun m => (pw_below_drewN (Below.refl base w) m))
  clear h
  by_cases hq : 0 ≤ q ∧ q < (bs.length : Int)
  · simp only [dif_pos hq] at hlk
    have h2 : q.toNat < ls.length := by omega
    have hc3 := fun n => ((HH.out.drewN n).cells q.toNat (by have := HH.out.accs.len; omega) (by omega) h2).2.2.2
    by_cases hn : n < 0
    · have hnd : decide (n < 0) = true := decide_eq_true hn
      go_enter Try.func10, Try.ntmps10
      go_wp2_with (go_at_call 18; refine (there.calls HH.out).mono ?_; rintro e w1 ⟨rfl, ⟨nd, rfl⟩⟩)
      go_ret
      have e1 : spendE ls q n = 1 := by unfold spendE; rw [if_neg (by omega)]
      have e2 : spendL ls q n = ls := by unfold spendL; rw [e1, if_neg (by decide)]
      rw [e1, e2]
      exact ⟨rfl, HH.out.drewN nd, HD.out nd, fun _ => ⟨nd, rfl⟩⟩
    · have hnd : decide (n < 0) = false := decide_eq_false hn
      have hg : ls.getD q.toNat 0 = ls[q.toNat] := by simp [List.getD, h2]
      by_cases hm : n > ls[q.toNat]
      · have hmd : decide (ls[q.toNat] < n) = true := decide_eq_true hm
        have hmd' : decide (n > ls[q.toNat]) = true := decide_eq_true hm
        go_enter Try.func10, Try.ntmps10
        go_wp2_with (go_at_call 18; refine (there.calls HH.out).mono ?_; rintro e w1 ⟨rfl, ⟨nd, rfl⟩⟩)
        go_ret
        have e1 : spendE ls q n = 3 := by unfold spendE; rw [if_pos (by omega), hg, if_pos hm]
        have e2 : spendL ls q n = ls := by unfold spendL; rw [e1, if_neg (by decide)]
        rw [e1, e2]
        exact ⟨rfl, HH.out.drewN nd, HD.out nd, fun _ => ⟨nd, rfl⟩⟩
      · have hmd : decide (ls[q.toNat] < n) = false := decide_eq_false hm
        have hmd' : decide (n > ls[q.toNat]) = false := decide_eq_false hm
        have hfz := fun n => (HH.out.drewN n).loose q.toNat (by omega) 3
        go_enter Try.func10, Try.ntmps10
        go_wp2_with (go_at_call 18; refine (there.calls HH.out).mono ?_; rintro e w1 ⟨rfl, ⟨nd, rfl⟩⟩)
        go_ret
        have e1 : spendE ls q n = 0 := by unfold spendE; rw [if_pos (by omega), hg, if_neg (by omega)]
        have e2 : spendL ls q n = ls.set q.toNat (wrap64 (ls[q.toNat] - n)) := by unfold spendL; rw [e1, if_pos rfl, hg]
        rw [e1, e2]
        exact ⟨rfl, (HH.out.drewN nd).store q.toNat (by omega) _, (HD.out nd).setCell (p := ⟨bs[q.toNat], 3, none⟩) (HH.out.accs.low _ _) _, fun h => absurd rfl h⟩
  · simp only [dif_neg hq] at hlk
    go_enter Try.func10, Try.ntmps10
    go_wp2_with (go_at_call 18; refine (there.calls HH.out).mono ?_; rintro e w1 ⟨rfl, ⟨nd, rfl⟩⟩)
    go_ret
    have e1 : spendE ls q n = 1 := by unfold spendE; rw [if_neg (by omega)]
    have e2 : spendL ls q n = ls := by unfold spendL; rw [e1, if_neg (by decide)]
    rw [e1, e2]
    exact ⟨rfl, HH.out.drewN nd, HD.out nd, fun _ => ⟨nd, rfl⟩⟩
end Go.Proofs.Ytgebfcdpbeaknaa.Led
