/-
  Texts of ours, packed (wip/merge.py): Book, X25, BookRow, Append, BookGrow, X38, X56, X73.
-/
import Derived.Test.YtgebfcdpbeaknaaGreatDoorM0
import Derived.WalkKit
import Derived.Test.YtgebfcdpbeaknaaGreatDoorWWords
import Derived.Maps.AppendAt
import Derived.Laws.AppendOwn
/-! #### Book -/
section
set_option linter.unusedVariables false
set_option linter.unusedSimpArgs false
namespace Go.Proofs.YtgebfcdpbeaknaaGreatDoor.Bk
open Go Go.RowKit Go.Proofs.YtgebfcdpbeaknaaGreatDoor.X Go.Proofs.YtgebfcdpbeaknaaGreatDoorW.PrintWords Go.Proofs.YtgebfcdpbeaknaaGreatDoorW.PrintLast
attribute [local go_sem] Oper.semAt_some

/-- the Book lies in block kb; of its lists, that of tokens alone is not nil -/
def Lies (w : World) (kb : Nat) (n : Int) (tv : Value) : Prop :=
  w.heap[kb]? = some (.cells #[.int .i64 n, .slice none 0 0, .slice none 0 0, .slice none 0 0, .slice none 0 0, .slice none 0 0, tv, .slice none 0 0, .slice none 0 0, .slice none 0 0, .slice none 0 0, .slice none 0 0, .slice none 0 0] 40 (0, 0))
theorem Lies.drewN {w : World} {kb : Nat} {n : Int} {tv : Value} (h : Lies w kb n tv) (m : Nat) : Lies (w.drewN m) kb n tv := h
theorem Lies.move {w w' : World} {kb : Nat} {n : Int} {tv : Value} (h : Lies w kb n tv) (hm : w'.heap[kb]? = w.heap[kb]?) : Lies w' kb n tv := hm.trans h
theorem Lies.lt {w : World} {kb : Nat} {n : Int} {tv : Value} (h : Lies w kb n tv) : kb < w.heap.size := (Array.getElem?_eq_some_iff.1 h).1
set_option maxHeartbeats 1000000 in
set_option maxRecDepth 100000 in
theorem fillByte.idle {w : World} {kb : Nat} {n : Int} {tv : Value} (h : Lies w kb n tv) :
    Calls Tryz.prog 18 #[.pointer (some ⟨kb, 0, none⟩)] w fun e w' => e = .returned (.tuple #[]) ∧ Drawn0 w w' := by
  have hc : ∀ m, (w.drewN m).cell? ⟨kb, 1, none⟩ = some (.slice none 0 0) := fun m => by have this : w.heap[kb]? = _ := h; simp [World.cell?, this]
  clear h
  go_enter Tryz.func18, Tryz.ntmps18
  go_wp2
  go_loopw [2] (fun v wr => v = .int .i64 0 ∧ Drawn0 w wr) (fun _ _ => 0)
  case atStart => exact ⟨rfl, Drawn0.refl _⟩
  case round =>
    obtain ⟨rfl, hw⟩ := hrel
    obtain ⟨m, rfl⟩ := hw.out
    go_wp2
    go_end0
    exact ⟨rfl, hw⟩
set_option maxHeartbeats 1000000 in
set_option maxRecDepth 100000 in
theorem growByte.idle {w : World} {kb : Nat} {n : Int} {tv : Value} (h : Lies w kb n tv) :
    Calls Tryz.prog 30 #[.pointer (some ⟨kb, 0, none⟩)] w fun e w' => e = .returned (.tuple #[]) ∧ Drawn0 w w' := by
  have hc : ∀ m, (w.drewN m).cell? ⟨kb, 1, none⟩ = some (.slice none 0 0) := fun m => by have this : w.heap[kb]? = _ := h; simp [World.cell?, this]
  clear h
  go_enter Tryz.func30, Tryz.ntmps30
  go_wp2
  go_loopw [2] (fun v wr => v = .int .i64 0 ∧ Drawn0 w wr) (fun _ _ => 0)
  case atStart => exact ⟨rfl, Drawn0.refl _⟩
  case round =>
    obtain ⟨rfl, hw⟩ := hrel
    obtain ⟨m, rfl⟩ := hw.out
    go_wp2
    go_end0
    exact ⟨rfl, hw⟩
set_option maxHeartbeats 1000000 in
set_option maxRecDepth 100000 in
theorem lookByte.idle {w : World} {kb : Nat} {n : Int} {tv : Value} (h : Lies w kb n tv) :
    Calls Tryz.prog 42 #[.pointer (some ⟨kb, 0, none⟩)] w fun e w' => e = .returned (.bool true) ∧ Drawn0 w w' := by
  have hc : ∀ m, (w.drewN m).cell? ⟨kb, 1, none⟩ = some (.slice none 0 0) := fun m => by have this : w.heap[kb]? = _ := h; simp [World.cell?, this]
  clear h
  go_enter Tryz.func42, Tryz.ntmps42
  go_wp2
  go_loopw [3] (fun v wr => v = .int .i64 0 ∧ Drawn0 w wr) (fun _ _ => 0)
  case atStart => exact ⟨rfl, Drawn0.refl _⟩
  case round =>
    obtain ⟨rfl, hw⟩ := hrel
    obtain ⟨m, rfl⟩ := hw.out
    go_wp2
    go_ret
    exact ⟨rfl, hw⟩
set_option maxHeartbeats 1000000 in
set_option maxRecDepth 100000 in
theorem fillInt32.idle {w : World} {kb : Nat} {n : Int} {tv : Value} (h : Lies w kb n tv) :
    Calls Tryz.prog 19 #[.pointer (some ⟨kb, 0, none⟩)] w fun e w' => e = .returned (.tuple #[]) ∧ Drawn0 w w' := by
  have hc : ∀ m, (w.drewN m).cell? ⟨kb, 2, none⟩ = some (.slice none 0 0) := fun m => by have this : w.heap[kb]? = _ := h; simp [World.cell?, this]
  clear h
  go_enter Tryz.func19, Tryz.ntmps19
  go_wp2
  go_loopw [2] (fun v wr => v = .int .i64 0 ∧ Drawn0 w wr) (fun _ _ => 0)
  case atStart => exact ⟨rfl, Drawn0.refl _⟩
  case round =>
    obtain ⟨rfl, hw⟩ := hrel
    obtain ⟨m, rfl⟩ := hw.out
    go_wp2
    go_end0
    exact ⟨rfl, hw⟩
set_option maxHeartbeats 1000000 in
set_option maxRecDepth 100000 in
theorem growInt32.idle {w : World} {kb : Nat} {n : Int} {tv : Value} (h : Lies w kb n tv) :
    Calls Tryz.prog 31 #[.pointer (some ⟨kb, 0, none⟩)] w fun e w' => e = .returned (.tuple #[]) ∧ Drawn0 w w' := by
  have hc : ∀ m, (w.drewN m).cell? ⟨kb, 2, none⟩ = some (.slice none 0 0) := fun m => by have this : w.heap[kb]? = _ := h; simp [World.cell?, this]
  clear h
  go_enter Tryz.func31, Tryz.ntmps31
  go_wp2
  go_loopw [2] (fun v wr => v = .int .i64 0 ∧ Drawn0 w wr) (fun _ _ => 0)
  case atStart => exact ⟨rfl, Drawn0.refl _⟩
  case round =>
    obtain ⟨rfl, hw⟩ := hrel
    obtain ⟨m, rfl⟩ := hw.out
    go_wp2
    go_end0
    exact ⟨rfl, hw⟩
set_option maxHeartbeats 1000000 in
set_option maxRecDepth 100000 in
theorem lookInt32.idle {w : World} {kb : Nat} {n : Int} {tv : Value} (h : Lies w kb n tv) :
    Calls Tryz.prog 43 #[.pointer (some ⟨kb, 0, none⟩)] w fun e w' => e = .returned (.bool true) ∧ Drawn0 w w' := by
  have hc : ∀ m, (w.drewN m).cell? ⟨kb, 2, none⟩ = some (.slice none 0 0) := fun m => by have this : w.heap[kb]? = _ := h; simp [World.cell?, this]
  clear h
  go_enter Tryz.func43, Tryz.ntmps43
  go_wp2
  go_loopw [3] (fun v wr => v = .int .i64 0 ∧ Drawn0 w wr) (fun _ _ => 0)
  case atStart => exact ⟨rfl, Drawn0.refl _⟩
  case round =>
    obtain ⟨rfl, hw⟩ := hrel
    obtain ⟨m, rfl⟩ := hw.out
    go_wp2
    go_ret
    exact ⟨rfl, hw⟩
set_option maxHeartbeats 1000000 in
set_option maxRecDepth 100000 in
theorem fillNum.idle {w : World} {kb : Nat} {n : Int} {tv : Value} (h : Lies w kb n tv) :
    Calls Tryz.prog 20 #[.pointer (some ⟨kb, 0, none⟩)] w fun e w' => e = .returned (.tuple #[]) ∧ Drawn0 w w' := by
  have hc : ∀ m, (w.drewN m).cell? ⟨kb, 3, none⟩ = some (.slice none 0 0) := fun m => by have this : w.heap[kb]? = _ := h; simp [World.cell?, this]
  clear h
  go_enter Tryz.func20, Tryz.ntmps20
  go_wp2
  go_loopw [2] (fun v wr => v = .int .i64 0 ∧ Drawn0 w wr) (fun _ _ => 0)
  case atStart => exact ⟨rfl, Drawn0.refl _⟩
  case round =>
    obtain ⟨rfl, hw⟩ := hrel
    obtain ⟨m, rfl⟩ := hw.out
    go_wp2
    go_end0
    exact ⟨rfl, hw⟩
set_option maxHeartbeats 1000000 in
set_option maxRecDepth 100000 in
theorem growNum.idle {w : World} {kb : Nat} {n : Int} {tv : Value} (h : Lies w kb n tv) :
    Calls Tryz.prog 32 #[.pointer (some ⟨kb, 0, none⟩)] w fun e w' => e = .returned (.tuple #[]) ∧ Drawn0 w w' := by
  have hc : ∀ m, (w.drewN m).cell? ⟨kb, 3, none⟩ = some (.slice none 0 0) := fun m => by have this : w.heap[kb]? = _ := h; simp [World.cell?, this]
  clear h
  go_enter Tryz.func32, Tryz.ntmps32
  go_wp2
  go_loopw [2] (fun v wr => v = .int .i64 0 ∧ Drawn0 w wr) (fun _ _ => 0)
  case atStart => exact ⟨rfl, Drawn0.refl _⟩
  case round =>
    obtain ⟨rfl, hw⟩ := hrel
    obtain ⟨m, rfl⟩ := hw.out
    go_wp2
    go_end0
    exact ⟨rfl, hw⟩
set_option maxHeartbeats 1000000 in
set_option maxRecDepth 100000 in
theorem lookNum.idle {w : World} {kb : Nat} {n : Int} {tv : Value} (h : Lies w kb n tv) :
    Calls Tryz.prog 44 #[.pointer (some ⟨kb, 0, none⟩)] w fun e w' => e = .returned (.bool true) ∧ Drawn0 w w' := by
  have hc : ∀ m, (w.drewN m).cell? ⟨kb, 3, none⟩ = some (.slice none 0 0) := fun m => by have this : w.heap[kb]? = _ := h; simp [World.cell?, this]
  clear h
  go_enter Tryz.func44, Tryz.ntmps44
  go_wp2
  go_loopw [3] (fun v wr => v = .int .i64 0 ∧ Drawn0 w wr) (fun _ _ => 0)
  case atStart => exact ⟨rfl, Drawn0.refl _⟩
  case round =>
    obtain ⟨rfl, hw⟩ := hrel
    obtain ⟨m, rfl⟩ := hw.out
    go_wp2
    go_ret
    exact ⟨rfl, hw⟩
set_option maxHeartbeats 1000000 in
set_option maxRecDepth 100000 in
theorem fillBool.idle {w : World} {kb : Nat} {n : Int} {tv : Value} (h : Lies w kb n tv) :
    Calls Tryz.prog 21 #[.pointer (some ⟨kb, 0, none⟩)] w fun e w' => e = .returned (.tuple #[]) ∧ Drawn0 w w' := by
  have hc : ∀ m, (w.drewN m).cell? ⟨kb, 4, none⟩ = some (.slice none 0 0) := fun m => by have this : w.heap[kb]? = _ := h; simp [World.cell?, this]
  clear h
  go_enter Tryz.func21, Tryz.ntmps21
  go_wp2
  go_loopw [2] (fun v wr => v = .int .i64 0 ∧ Drawn0 w wr) (fun _ _ => 0)
  case atStart => exact ⟨rfl, Drawn0.refl _⟩
  case round =>
    obtain ⟨rfl, hw⟩ := hrel
    obtain ⟨m, rfl⟩ := hw.out
    go_wp2
    go_end0
    exact ⟨rfl, hw⟩
set_option maxHeartbeats 1000000 in
set_option maxRecDepth 100000 in
theorem growBool.idle {w : World} {kb : Nat} {n : Int} {tv : Value} (h : Lies w kb n tv) :
    Calls Tryz.prog 33 #[.pointer (some ⟨kb, 0, none⟩)] w fun e w' => e = .returned (.tuple #[]) ∧ Drawn0 w w' := by
  have hc : ∀ m, (w.drewN m).cell? ⟨kb, 4, none⟩ = some (.slice none 0 0) := fun m => by have this : w.heap[kb]? = _ := h; simp [World.cell?, this]
  clear h
  go_enter Tryz.func33, Tryz.ntmps33
  go_wp2
  go_loopw [2] (fun v wr => v = .int .i64 0 ∧ Drawn0 w wr) (fun _ _ => 0)
  case atStart => exact ⟨rfl, Drawn0.refl _⟩
  case round =>
    obtain ⟨rfl, hw⟩ := hrel
    obtain ⟨m, rfl⟩ := hw.out
    go_wp2
    go_end0
    exact ⟨rfl, hw⟩
set_option maxHeartbeats 1000000 in
set_option maxRecDepth 100000 in
theorem lookBool.idle {w : World} {kb : Nat} {n : Int} {tv : Value} (h : Lies w kb n tv) :
    Calls Tryz.prog 45 #[.pointer (some ⟨kb, 0, none⟩)] w fun e w' => e = .returned (.bool true) ∧ Drawn0 w w' := by
  have hc : ∀ m, (w.drewN m).cell? ⟨kb, 4, none⟩ = some (.slice none 0 0) := fun m => by have this : w.heap[kb]? = _ := h; simp [World.cell?, this]
  clear h
  go_enter Tryz.func45, Tryz.ntmps45
  go_wp2
  go_loopw [3] (fun v wr => v = .int .i64 0 ∧ Drawn0 w wr) (fun _ _ => 0)
  case atStart => exact ⟨rfl, Drawn0.refl _⟩
  case round =>
    obtain ⟨rfl, hw⟩ := hrel
    obtain ⟨m, rfl⟩ := hw.out
    go_wp2
    go_ret
    exact ⟨rfl, hw⟩
set_option maxHeartbeats 1000000 in
set_option maxRecDepth 100000 in
theorem fillText.idle {w : World} {kb : Nat} {n : Int} {tv : Value} (h : Lies w kb n tv) :
    Calls Tryz.prog 22 #[.pointer (some ⟨kb, 0, none⟩)] w fun e w' => e = .returned (.tuple #[]) ∧ Drawn0 w w' := by
  have hc : ∀ m, (w.drewN m).cell? ⟨kb, 5, none⟩ = some (.slice none 0 0) := fun m => by have this : w.heap[kb]? = _ := h; simp [World.cell?, this]
  clear h
  go_enter Tryz.func22, Tryz.ntmps22
  go_wp2
  go_loopw [2] (fun v wr => v = .int .i64 0 ∧ Drawn0 w wr) (fun _ _ => 0)
  case atStart => exact ⟨rfl, Drawn0.refl _⟩
  case round =>
    obtain ⟨rfl, hw⟩ := hrel
    obtain ⟨m, rfl⟩ := hw.out
    go_wp2
    go_end0
    exact ⟨rfl, hw⟩
set_option maxHeartbeats 1000000 in
set_option maxRecDepth 100000 in
theorem growText.idle {w : World} {kb : Nat} {n : Int} {tv : Value} (h : Lies w kb n tv) :
    Calls Tryz.prog 34 #[.pointer (some ⟨kb, 0, none⟩)] w fun e w' => e = .returned (.tuple #[]) ∧ Drawn0 w w' := by
  have hc : ∀ m, (w.drewN m).cell? ⟨kb, 5, none⟩ = some (.slice none 0 0) := fun m => by have this : w.heap[kb]? = _ := h; simp [World.cell?, this]
  clear h
  go_enter Tryz.func34, Tryz.ntmps34
  go_wp2
  go_loopw [2] (fun v wr => v = .int .i64 0 ∧ Drawn0 w wr) (fun _ _ => 0)
  case atStart => exact ⟨rfl, Drawn0.refl _⟩
  case round =>
    obtain ⟨rfl, hw⟩ := hrel
    obtain ⟨m, rfl⟩ := hw.out
    go_wp2
    go_end0
    exact ⟨rfl, hw⟩
set_option maxHeartbeats 1000000 in
set_option maxRecDepth 100000 in
theorem lookText.idle {w : World} {kb : Nat} {n : Int} {tv : Value} (h : Lies w kb n tv) :
    Calls Tryz.prog 46 #[.pointer (some ⟨kb, 0, none⟩)] w fun e w' => e = .returned (.bool true) ∧ Drawn0 w w' := by
  have hc : ∀ m, (w.drewN m).cell? ⟨kb, 5, none⟩ = some (.slice none 0 0) := fun m => by have this : w.heap[kb]? = _ := h; simp [World.cell?, this]
  clear h
  go_enter Tryz.func46, Tryz.ntmps46
  go_wp2
  go_loopw [3] (fun v wr => v = .int .i64 0 ∧ Drawn0 w wr) (fun _ _ => 0)
  case atStart => exact ⟨rfl, Drawn0.refl _⟩
  case round =>
    obtain ⟨rfl, hw⟩ := hrel
    obtain ⟨m, rfl⟩ := hw.out
    go_wp2
    go_ret
    exact ⟨rfl, hw⟩
set_option maxHeartbeats 1000000 in
set_option maxRecDepth 100000 in
theorem fillTenant.idle {w : World} {kb : Nat} {n : Int} {tv : Value} (h : Lies w kb n tv) :
    Calls Tryz.prog 24 #[.pointer (some ⟨kb, 0, none⟩)] w fun e w' => e = .returned (.tuple #[]) ∧ Drawn0 w w' := by
  have hc : ∀ m, (w.drewN m).cell? ⟨kb, 7, none⟩ = some (.slice none 0 0) := fun m => by have this : w.heap[kb]? = _ := h; simp [World.cell?, this]
  clear h
  go_enter Tryz.func24, Tryz.ntmps24
  go_wp2
  go_loopw [2] (fun v wr => v = .int .i64 0 ∧ Drawn0 w wr) (fun _ _ => 0)
  case atStart => exact ⟨rfl, Drawn0.refl _⟩
  case round =>
    obtain ⟨rfl, hw⟩ := hrel
    obtain ⟨m, rfl⟩ := hw.out
    go_wp2
    go_end0
    exact ⟨rfl, hw⟩
set_option maxHeartbeats 1000000 in
set_option maxRecDepth 100000 in
theorem growTenant.idle {w : World} {kb : Nat} {n : Int} {tv : Value} (h : Lies w kb n tv) :
    Calls Tryz.prog 36 #[.pointer (some ⟨kb, 0, none⟩)] w fun e w' => e = .returned (.tuple #[]) ∧ Drawn0 w w' := by
  have hc : ∀ m, (w.drewN m).cell? ⟨kb, 7, none⟩ = some (.slice none 0 0) := fun m => by have this : w.heap[kb]? = _ := h; simp [World.cell?, this]
  clear h
  go_enter Tryz.func36, Tryz.ntmps36
  go_wp2
  go_loopw [2] (fun v wr => v = .int .i64 0 ∧ Drawn0 w wr) (fun _ _ => 0)
  case atStart => exact ⟨rfl, Drawn0.refl _⟩
  case round =>
    obtain ⟨rfl, hw⟩ := hrel
    obtain ⟨m, rfl⟩ := hw.out
    go_wp2
    go_end0
    exact ⟨rfl, hw⟩
set_option maxHeartbeats 1000000 in
set_option maxRecDepth 100000 in
theorem lookTenant.idle {w : World} {kb : Nat} {n : Int} {tv : Value} (h : Lies w kb n tv) :
    Calls Tryz.prog 48 #[.pointer (some ⟨kb, 0, none⟩)] w fun e w' => e = .returned (.bool true) ∧ Drawn0 w w' := by
  have hc : ∀ m, (w.drewN m).cell? ⟨kb, 7, none⟩ = some (.slice none 0 0) := fun m => by have this : w.heap[kb]? = _ := h; simp [World.cell?, this]
  clear h
  go_enter Tryz.func48, Tryz.ntmps48
  go_wp2
  go_loopw [3] (fun v wr => v = .int .i64 0 ∧ Drawn0 w wr) (fun _ _ => 0)
  case atStart => exact ⟨rfl, Drawn0.refl _⟩
  case round =>
    obtain ⟨rfl, hw⟩ := hrel
    obtain ⟨m, rfl⟩ := hw.out
    go_wp2
    go_ret
    exact ⟨rfl, hw⟩
set_option maxHeartbeats 1000000 in
set_option maxRecDepth 100000 in
theorem fillRat.idle {w : World} {kb : Nat} {n : Int} {tv : Value} (h : Lies w kb n tv) :
    Calls Tryz.prog 25 #[.pointer (some ⟨kb, 0, none⟩)] w fun e w' => e = .returned (.tuple #[]) ∧ Drawn0 w w' := by
  have hc : ∀ m, (w.drewN m).cell? ⟨kb, 8, none⟩ = some (.slice none 0 0) := fun m => by have this : w.heap[kb]? = _ := h; simp [World.cell?, this]
  clear h
  go_enter Tryz.func25, Tryz.ntmps25
  go_wp2
  go_loopw [2] (fun v wr => v = .int .i64 0 ∧ Drawn0 w wr) (fun _ _ => 0)
  case atStart => exact ⟨rfl, Drawn0.refl _⟩
  case round =>
    obtain ⟨rfl, hw⟩ := hrel
    obtain ⟨m, rfl⟩ := hw.out
    go_wp2
    go_end0
    exact ⟨rfl, hw⟩
set_option maxHeartbeats 1000000 in
set_option maxRecDepth 100000 in
theorem growRat.idle {w : World} {kb : Nat} {n : Int} {tv : Value} (h : Lies w kb n tv) :
    Calls Tryz.prog 37 #[.pointer (some ⟨kb, 0, none⟩)] w fun e w' => e = .returned (.tuple #[]) ∧ Drawn0 w w' := by
  have hc : ∀ m, (w.drewN m).cell? ⟨kb, 8, none⟩ = some (.slice none 0 0) := fun m => by have this : w.heap[kb]? = _ := h; simp [World.cell?, this]
  clear h
  go_enter Tryz.func37, Tryz.ntmps37
  go_wp2
  go_loopw [2] (fun v wr => v = .int .i64 0 ∧ Drawn0 w wr) (fun _ _ => 0)
  case atStart => exact ⟨rfl, Drawn0.refl _⟩
  case round =>
    obtain ⟨rfl, hw⟩ := hrel
    obtain ⟨m, rfl⟩ := hw.out
    go_wp2
    go_end0
    exact ⟨rfl, hw⟩
set_option maxHeartbeats 1000000 in
set_option maxRecDepth 100000 in
theorem lookRat.idle {w : World} {kb : Nat} {n : Int} {tv : Value} (h : Lies w kb n tv) :
    Calls Tryz.prog 49 #[.pointer (some ⟨kb, 0, none⟩)] w fun e w' => e = .returned (.bool true) ∧ Drawn0 w w' := by
  have hc : ∀ m, (w.drewN m).cell? ⟨kb, 8, none⟩ = some (.slice none 0 0) := fun m => by have this : w.heap[kb]? = _ := h; simp [World.cell?, this]
  clear h
  go_enter Tryz.func49, Tryz.ntmps49
  go_wp2
  go_loopw [3] (fun v wr => v = .int .i64 0 ∧ Drawn0 w wr) (fun _ _ => 0)
  case atStart => exact ⟨rfl, Drawn0.refl _⟩
  case round =>
    obtain ⟨rfl, hw⟩ := hrel
    obtain ⟨m, rfl⟩ := hw.out
    go_wp2
    go_ret
    exact ⟨rfl, hw⟩
set_option maxHeartbeats 1000000 in
set_option maxRecDepth 100000 in
theorem fillVar.idle {w : World} {kb : Nat} {n : Int} {tv : Value} (h : Lies w kb n tv) :
    Calls Tryz.prog 26 #[.pointer (some ⟨kb, 0, none⟩)] w fun e w' => e = .returned (.tuple #[]) ∧ Drawn0 w w' := by
  have hc : ∀ m, (w.drewN m).cell? ⟨kb, 9, none⟩ = some (.slice none 0 0) := fun m => by have this : w.heap[kb]? = _ := h; simp [World.cell?, this]
  clear h
  go_enter Tryz.func26, Tryz.ntmps26
  go_wp2
  go_loopw [2] (fun v wr => v = .int .i64 0 ∧ Drawn0 w wr) (fun _ _ => 0)
  case atStart => exact ⟨rfl, Drawn0.refl _⟩
  case round =>
    obtain ⟨rfl, hw⟩ := hrel
    obtain ⟨m, rfl⟩ := hw.out
    go_wp2
    go_end0
    exact ⟨rfl, hw⟩
set_option maxHeartbeats 1000000 in
set_option maxRecDepth 100000 in
theorem growVar.idle {w : World} {kb : Nat} {n : Int} {tv : Value} (h : Lies w kb n tv) :
    Calls Tryz.prog 38 #[.pointer (some ⟨kb, 0, none⟩)] w fun e w' => e = .returned (.tuple #[]) ∧ Drawn0 w w' := by
  have hc : ∀ m, (w.drewN m).cell? ⟨kb, 9, none⟩ = some (.slice none 0 0) := fun m => by have this : w.heap[kb]? = _ := h; simp [World.cell?, this]
  clear h
  go_enter Tryz.func38, Tryz.ntmps38
  go_wp2
  go_loopw [2] (fun v wr => v = .int .i64 0 ∧ Drawn0 w wr) (fun _ _ => 0)
  case atStart => exact ⟨rfl, Drawn0.refl _⟩
  case round =>
    obtain ⟨rfl, hw⟩ := hrel
    obtain ⟨m, rfl⟩ := hw.out
    go_wp2
    go_end0
    exact ⟨rfl, hw⟩
set_option maxHeartbeats 1000000 in
set_option maxRecDepth 100000 in
theorem lookVar.idle {w : World} {kb : Nat} {n : Int} {tv : Value} (h : Lies w kb n tv) :
    Calls Tryz.prog 50 #[.pointer (some ⟨kb, 0, none⟩)] w fun e w' => e = .returned (.bool true) ∧ Drawn0 w w' := by
  have hc : ∀ m, (w.drewN m).cell? ⟨kb, 9, none⟩ = some (.slice none 0 0) := fun m => by have this : w.heap[kb]? = _ := h; simp [World.cell?, this]
  clear h
  go_enter Tryz.func50, Tryz.ntmps50
  go_wp2
  go_loopw [3] (fun v wr => v = .int .i64 0 ∧ Drawn0 w wr) (fun _ _ => 0)
  case atStart => exact ⟨rfl, Drawn0.refl _⟩
  case round =>
    obtain ⟨rfl, hw⟩ := hrel
    obtain ⟨m, rfl⟩ := hw.out
    go_wp2
    go_ret
    exact ⟨rfl, hw⟩
set_option maxHeartbeats 1000000 in
set_option maxRecDepth 100000 in
theorem fillRow.idle {w : World} {kb : Nat} {n : Int} {tv : Value} (h : Lies w kb n tv) :
    Calls Tryz.prog 27 #[.pointer (some ⟨kb, 0, none⟩)] w fun e w' => e = .returned (.tuple #[]) ∧ Drawn0 w w' := by
  have hc : ∀ m, (w.drewN m).cell? ⟨kb, 10, none⟩ = some (.slice none 0 0) := fun m => by have this : w.heap[kb]? = _ := h; simp [World.cell?, this]
  clear h
  go_enter Tryz.func27, Tryz.ntmps27
  go_wp2
  go_loopw [2] (fun v wr => v = .int .i64 0 ∧ Drawn0 w wr) (fun _ _ => 0)
  case atStart => exact ⟨rfl, Drawn0.refl _⟩
  case round =>
    obtain ⟨rfl, hw⟩ := hrel
    obtain ⟨m, rfl⟩ := hw.out
    go_wp2
    go_end0
    exact ⟨rfl, hw⟩
set_option maxHeartbeats 1000000 in
set_option maxRecDepth 100000 in
theorem growRow.idle {w : World} {kb : Nat} {n : Int} {tv : Value} (h : Lies w kb n tv) :
    Calls Tryz.prog 39 #[.pointer (some ⟨kb, 0, none⟩)] w fun e w' => e = .returned (.tuple #[]) ∧ Drawn0 w w' := by
  have hc : ∀ m, (w.drewN m).cell? ⟨kb, 10, none⟩ = some (.slice none 0 0) := fun m => by have this : w.heap[kb]? = _ := h; simp [World.cell?, this]
  clear h
  go_enter Tryz.func39, Tryz.ntmps39
  go_wp2
  go_loopw [2] (fun v wr => v = .int .i64 0 ∧ Drawn0 w wr) (fun _ _ => 0)
  case atStart => exact ⟨rfl, Drawn0.refl _⟩
  case round =>
    obtain ⟨rfl, hw⟩ := hrel
    obtain ⟨m, rfl⟩ := hw.out
    go_wp2
    go_end0
    exact ⟨rfl, hw⟩
set_option maxHeartbeats 1000000 in
set_option maxRecDepth 100000 in
theorem lookRow.idle {w : World} {kb : Nat} {n : Int} {tv : Value} (h : Lies w kb n tv) :
    Calls Tryz.prog 51 #[.pointer (some ⟨kb, 0, none⟩)] w fun e w' => e = .returned (.bool true) ∧ Drawn0 w w' := by
  have hc : ∀ m, (w.drewN m).cell? ⟨kb, 10, none⟩ = some (.slice none 0 0) := fun m => by have this : w.heap[kb]? = _ := h; simp [World.cell?, this]
  clear h
  go_enter Tryz.func51, Tryz.ntmps51
  go_wp2
  go_loopw [3] (fun v wr => v = .int .i64 0 ∧ Drawn0 w wr) (fun _ _ => 0)
  case atStart => exact ⟨rfl, Drawn0.refl _⟩
  case round =>
    obtain ⟨rfl, hw⟩ := hrel
    obtain ⟨m, rfl⟩ := hw.out
    go_wp2
    go_ret
    exact ⟨rfl, hw⟩
set_option maxHeartbeats 1000000 in
set_option maxRecDepth 100000 in
theorem fillNode.idle {w : World} {kb : Nat} {n : Int} {tv : Value} (h : Lies w kb n tv) :
    Calls Tryz.prog 28 #[.pointer (some ⟨kb, 0, none⟩)] w fun e w' => e = .returned (.tuple #[]) ∧ Drawn0 w w' := by
  have hc : ∀ m, (w.drewN m).cell? ⟨kb, 11, none⟩ = some (.slice none 0 0) := fun m => by have this : w.heap[kb]? = _ := h; simp [World.cell?, this]
  clear h
  go_enter Tryz.func28, Tryz.ntmps28
  go_wp2
  go_loopw [2] (fun v wr => v = .int .i64 0 ∧ Drawn0 w wr) (fun _ _ => 0)
  case atStart => exact ⟨rfl, Drawn0.refl _⟩
  case round =>
    obtain ⟨rfl, hw⟩ := hrel
    obtain ⟨m, rfl⟩ := hw.out
    go_wp2
    go_end0
    exact ⟨rfl, hw⟩
set_option maxHeartbeats 1000000 in
set_option maxRecDepth 100000 in
theorem growNode.idle {w : World} {kb : Nat} {n : Int} {tv : Value} (h : Lies w kb n tv) :
    Calls Tryz.prog 40 #[.pointer (some ⟨kb, 0, none⟩)] w fun e w' => e = .returned (.tuple #[]) ∧ Drawn0 w w' := by
  have hc : ∀ m, (w.drewN m).cell? ⟨kb, 11, none⟩ = some (.slice none 0 0) := fun m => by have this : w.heap[kb]? = _ := h; simp [World.cell?, this]
  clear h
  go_enter Tryz.func40, Tryz.ntmps40
  go_wp2
  go_loopw [2] (fun v wr => v = .int .i64 0 ∧ Drawn0 w wr) (fun _ _ => 0)
  case atStart => exact ⟨rfl, Drawn0.refl _⟩
  case round =>
    obtain ⟨rfl, hw⟩ := hrel
    obtain ⟨m, rfl⟩ := hw.out
    go_wp2
    go_end0
    exact ⟨rfl, hw⟩
set_option maxHeartbeats 1000000 in
set_option maxRecDepth 100000 in
theorem lookNode.idle {w : World} {kb : Nat} {n : Int} {tv : Value} (h : Lies w kb n tv) :
    Calls Tryz.prog 52 #[.pointer (some ⟨kb, 0, none⟩)] w fun e w' => e = .returned (.bool true) ∧ Drawn0 w w' := by
  have hc : ∀ m, (w.drewN m).cell? ⟨kb, 11, none⟩ = some (.slice none 0 0) := fun m => by have this : w.heap[kb]? = _ := h; simp [World.cell?, this]
  clear h
  go_enter Tryz.func52, Tryz.ntmps52
  go_wp2
  go_loopw [3] (fun v wr => v = .int .i64 0 ∧ Drawn0 w wr) (fun _ _ => 0)
  case atStart => exact ⟨rfl, Drawn0.refl _⟩
  case round =>
    obtain ⟨rfl, hw⟩ := hrel
    obtain ⟨m, rfl⟩ := hw.out
    go_wp2
    go_ret
    exact ⟨rfl, hw⟩
set_option maxHeartbeats 1000000 in
set_option maxRecDepth 100000 in
theorem fillJob.idle {w : World} {kb : Nat} {n : Int} {tv : Value} (h : Lies w kb n tv) :
    Calls Tryz.prog 29 #[.pointer (some ⟨kb, 0, none⟩)] w fun e w' => e = .returned (.tuple #[]) ∧ Drawn0 w w' := by
  have hc : ∀ m, (w.drewN m).cell? ⟨kb, 12, none⟩ = some (.slice none 0 0) := fun m => by have this : w.heap[kb]? = _ := h; simp [World.cell?, this]
  clear h
  go_enter Tryz.func29, Tryz.ntmps29
  go_wp2
  go_loopw [2] (fun v wr => v = .int .i64 0 ∧ Drawn0 w wr) (fun _ _ => 0)
  case atStart => exact ⟨rfl, Drawn0.refl _⟩
  case round =>
    obtain ⟨rfl, hw⟩ := hrel
    obtain ⟨m, rfl⟩ := hw.out
    go_wp2
    go_end0
    exact ⟨rfl, hw⟩
set_option maxHeartbeats 1000000 in
set_option maxRecDepth 100000 in
theorem growJob.idle {w : World} {kb : Nat} {n : Int} {tv : Value} (h : Lies w kb n tv) :
    Calls Tryz.prog 41 #[.pointer (some ⟨kb, 0, none⟩)] w fun e w' => e = .returned (.tuple #[]) ∧ Drawn0 w w' := by
  have hc : ∀ m, (w.drewN m).cell? ⟨kb, 12, none⟩ = some (.slice none 0 0) := fun m => by have this : w.heap[kb]? = _ := h; simp [World.cell?, this]
  clear h
  go_enter Tryz.func41, Tryz.ntmps41
  go_wp2
  go_loopw [2] (fun v wr => v = .int .i64 0 ∧ Drawn0 w wr) (fun _ _ => 0)
  case atStart => exact ⟨rfl, Drawn0.refl _⟩
  case round =>
    obtain ⟨rfl, hw⟩ := hrel
    obtain ⟨m, rfl⟩ := hw.out
    go_wp2
    go_end0
    exact ⟨rfl, hw⟩
set_option maxHeartbeats 1000000 in
set_option maxRecDepth 100000 in
theorem lookJob.idle {w : World} {kb : Nat} {n : Int} {tv : Value} (h : Lies w kb n tv) :
    Calls Tryz.prog 53 #[.pointer (some ⟨kb, 0, none⟩)] w fun e w' => e = .returned (.bool true) ∧ Drawn0 w w' := by
  have hc : ∀ m, (w.drewN m).cell? ⟨kb, 12, none⟩ = some (.slice none 0 0) := fun m => by have this : w.heap[kb]? = _ := h; simp [World.cell?, this]
  clear h
  go_enter Tryz.func53, Tryz.ntmps53
  go_wp2
  go_loopw [3] (fun v wr => v = .int .i64 0 ∧ Drawn0 w wr) (fun _ _ => 0)
  case atStart => exact ⟨rfl, Drawn0.refl _⟩
  case round =>
    obtain ⟨rfl, hw⟩ := hrel
    obtain ⟨m, rfl⟩ := hw.out
    go_wp2
    go_ret
    exact ⟨rfl, hw⟩
end Go.Proofs.YtgebfcdpbeaknaaGreatDoor.Bk
end

/-! #### X25 -/
section

namespace Go.Proofs.YtgebfcdpbeaknaaGreatDoor.X
open Go.RowKit Go.Proofs.YtgebfcdpbeaknaaGreatDoorW.PrintWords Go.Proofs.YtgebfcdpbeaknaaGreatDoorW.PrintLast Go.Proofs.YtgebfcdpbeaknaaGreatDoorW.PrintMore
attribute [local go_sem] max2_int min2_int max_two min_two max_three min_three max_four min_four   -- for this text's walks alone
set_option linter.unusedVariables false
set_option linter.unusedSimpArgs false

/-! ### assayerlaw01_markToken: function 67 -/
def assayerlaw01_markToken.f (a0 : Int) : Option (Int × ByteArray × Int) := (assayerlaw01_word.f a0).bind fun t144 => (some (0, t144, 0))
set_option maxHeartbeats 8000000 in
set_option maxRecDepth 100000 in
theorem assayerlaw01_markToken.calls (a0 : Int) (r1 : Int) (r2 : ByteArray) (r3 : Int) (w : World) (h : assayerlaw01_markToken.f a0 = some (r1, r2, r3)) :
    Calls Tryz.prog 67 #[.int .i64 a0] w fun e w' => e = .returned (.agg #[.int .u8 r1, .string r2, .int .i64 r3]) ∧ Below w.heap.size w w' := by
  have hu52 := Tryz.underlying52
  have HB := Aside0.mk (Below.refl w.heap.size w)
  have H : ((assayerlaw01_word.f a0).bind fun t144 => (some (0, t144, 0))) = some (r1, r2, r3) := h
  clear h
  replace H := Option.bind_eq_some_iff.mp H
  obtain ⟨t144, A20, H⟩ := H
  replace H : (some (0, t144, 0)) = some (r1, r2, r3) := H
  have A2 := Aside0.mk A20
  clear A20
  simp only [Option.some.injEq, Prod.mk.injEq] at H
  obtain ⟨rfl, rfl, rfl⟩ := H
  go_enter Tryz.func67, Tryz.ntmps67
  go_wp2_with (first | ((with_reducible refine gate_dst (N := 2) rfl ?_); refine box_event ?hg (N := 2) ?hd (cs := #[.int .u8 0, .string (⟨#[]⟩ : ByteArray), .int .i64 0]) (t := 52) ?hr ?_; (case hd => rfl); (case hg => rfl); (case hr => first | (go_simp; done) | (go_simp; rfl)); intro gb143 hg w3 hbox hb; have n0_ := Aside0.mk (below_step (by repeat (first | (with_reducible first | exact HB.out | apply below_alloc | apply pw_below_drewN | apply below_drew1) | exact HB.out)) hb); have n1_ := Aside0.mk (hbox); have n2_ := Aside0.mk ((by rw [hg]; exact (below_size (by repeat (first | (with_reducible first | exact HB.out | apply below_alloc | apply pw_below_drewN | apply below_drew1) | exact HB.out))) : w.heap.size ≤ gb143)); have n3_ := Aside0.mk ((by rw [hg]; exact (below_size (by repeat (first | (with_reducible first | exact HB.out | apply below_alloc | apply pw_below_drewN | apply below_drew1) | exact HB.out))) : w.heap.size ≤ gb143)); clear HB; have HB := n0_; have BK143 := n1_; have GW143 := n2_; have GE143 := n3_; clear n0_ n1_ n2_ n3_; clear hb hbox hg) | ((with_reducible refine gate_callee (f := 90) rfl ?_); refine goesL_ (some 4) rfl rfl Tryz.func90 (by kernel_rfl) rfl #[.int .i64 a0] rfl (by (try simp only [List.map_toArray, List.map_cons, List.map_nil]); first | done | rfl | (simp only [List.length_drop, List.length_take]; rfl)) ?_; (with_reducible refine (assayerlaw01_word.calls a0 t144 _ A2.out).mono ?_); rintro e w' ⟨rfl, ⟨nd, rfl⟩⟩; refine ⟨_, rfl, ?_⟩; (try (rw [drewN_self w3]; generalize hq_ : World.drewN w3 _ = w3; have n0_ : Aside0 (w3.heap[gb143]? = some (.cells #[.int .u8 0, .string (⟨#[]⟩ : ByteArray), .int .i64 0] 52 (0, 0))) := ⟨by rw [← hq_]; exact (by (with_reducible repeat (first | refine blk_drewN ?_ _ | refine blk_drew ?_ | refine blk_alloc ?_ _)); exact BK143.out)⟩; have n1_ : Aside0 (Below w.heap.size w w3) := ⟨by rw [← hq_]; exact (by repeat (first | (with_reducible first | exact HB.out | apply below_alloc | apply pw_below_drewN | apply below_drew1 | refine below_set ?_ GE143.out) | exact HB.out))⟩; clear BK143 HB hq_; have BK143 := n0_; have HB := n1_; clear n0_ n1_)); have hcz4_0 : w3.cell? ⟨gb143, 0, none⟩ = some (.int .u8 0) := (blk_cell BK143.out 0).trans rfl; have hcz4_1 : w3.cell? ⟨gb143, 1, none⟩ = some (.string (⟨#[]⟩ : ByteArray)) := (blk_cell BK143.out 1).trans rfl; have hcz4_2 : w3.cell? ⟨gb143, 2, none⟩ = some (.int .i64 0) := (blk_cell BK143.out 2).trans rfl; have hfz4_0 := blk_frozen BK143.out 0; have hfz4_1 := blk_frozen BK143.out 1; have hfz4_2 := blk_frozen BK143.out 2))
  refine bodyPost_ret (results_cell_row rfl _ _ gb143 52 #[.int .u8 0, .string t144, .int .i64 0] (0, 0) _ rfl (by (with_reducible repeat (first | refine blk_drewN ?_ _ | refine blk_drew ?_ | refine blk_alloc ?_ _)); refine blk_put (cs := #[.int .u8 0, .string t144, .int .i64 0]) ?_ 2 _ rfl; (with_reducible repeat (first | refine blk_drewN ?_ _ | refine blk_drew ?_ | refine blk_alloc ?_ _)); refine blk_put (cs := #[.int .u8 0, .string (⟨#[]⟩ : ByteArray), .int .i64 0]) ?_ 1 _ rfl; (with_reducible repeat (first | refine blk_drewN ?_ _ | refine blk_drew ?_ | refine blk_alloc ?_ _)); refine blk_put (cs := #[.int .u8 0, .string (⟨#[]⟩ : ByteArray), .int .i64 0]) ?_ 0 _ rfl; (with_reducible repeat (first | refine blk_drewN ?_ _ | refine blk_drew ?_ | refine blk_alloc ?_ _)); exact BK143.out) Tryz.underlying52 rfl (by kernel_rfl)) rfl ?_
  exact ⟨by first | rfl | (simp [errW_none, errW_some] <;> rfl) | (simp [*, errW_none, errW_some] <;> rfl), by repeat (first | (with_reducible first | exact HB.out | apply below_alloc | apply pw_below_drewN | apply below_drew1 | refine below_set ?_ GE143.out) | exact HB.out)⟩

end Go.Proofs.YtgebfcdpbeaknaaGreatDoor.X
end

/-! #### BookRow -/
section
set_option linter.unusedVariables false
set_option linter.unusedSimpArgs false
namespace Go.Proofs.YtgebfcdpbeaknaaGreatDoor.Bk
open Go Go.RowKit Go.Proofs.YtgebfcdpbeaknaaGreatDoor.X Go.Proofs.YtgebfcdpbeaknaaGreatDoorW.PrintWords Go.Proofs.YtgebfcdpbeaknaaGreatDoorW.PrintLast

/-- the two lists that are held: what each is, and what each has grown to -/
structure Two (w : World) (kb tb : Nat) (n : Int) (cap : Nat) (va sa vb sb : Value) : Prop where
  book : Lies w kb n (.slice (some ⟨tb, 0, none⟩) 2 cap)
  row : ∃ cur, w.heap[tb]? = some (.cells cur 63 (0, 0)) ∧ cur.toList.take 6 = [va, sa, .int .i64 1, vb, sb, .int .i64 2]
theorem Two.move {w w' : World} {kb tb : Nat} {n : Int} {cap : Nat} {va sa vb sb : Value} (h : Two w kb tb n cap va sa vb sb) (h1 : w'.heap[kb]? = w.heap[kb]?) (h2 : w'.heap[tb]? = w.heap[tb]?) : Two w' kb tb n cap va sa vb sb :=
  ⟨h.book.move h1, by obtain ⟨cur, a, b⟩ := h.row; exact ⟨cur, h2.trans a, b⟩⟩
theorem Two.tlt {w : World} {kb tb : Nat} {n : Int} {cap : Nat} {va sa vb sb : Value} (h : Two w kb tb n cap va sa vb sb) : tb < w.heap.size := by
  obtain ⟨cur, a, b⟩ := h.row; exact (Array.getElem?_eq_some_iff.1 a).1
theorem Two.below {w w' : World} {kb tb : Nat} {n : Int} {cap : Nat} {va sa vb sb : Value} (h : Two w kb tb n cap va sa vb sb) (hb : Below w.heap.size w w') : Two w' kb tb n cap va sa vb sb := h.move (hb.block _ h.book.lt) (hb.block _ h.tlt)
theorem Two.cell {w : World} {kb tb : Nat} {n : Int} {cap : Nat} {va sa vb sb : Value} (h : Two w kb tb n cap va sa vb sb) : w.cell? ⟨kb, 6, none⟩ = some (.slice (some ⟨tb, 0, none⟩) 2 cap) := by
  have : w.heap[kb]? = _ := h.book
  simp [World.cell?, this]
theorem Two.at_ {w : World} {kb tb : Nat} {n : Int} {cap : Nat} {va sa vb sb : Value} (h : Two w kb tb n cap va sa vb sb) (j : Nat) (u : Value) (hu : [va, sa, Value.int .i64 1, vb, sb, .int .i64 2][j]? = some u) : w.cell? ⟨tb, j, none⟩ = some u ∧ w.frozen? ⟨tb, j, none⟩ = false := by
  obtain ⟨cur, hc, ht⟩ := h.row
  refine ⟨?_, by simp [World.frozen?, hc]⟩
  have hj : j < 6 := by
    have := (List.getElem?_eq_some_iff.1 hu).1
    simpa using this
  have : cur[j]? = some u := by
    rw [← ht, List.getElem?_take, if_pos hj] at hu
    simpa using hu
  simp [World.cell?, hc, this]
/-- so many marked tokens -/
def marks (m : ByteArray) (j : Nat) : List Value := (List.replicate j [Value.int .u8 0, .string m, .int .i64 0]).flatten
theorem marks_len (m : ByteArray) (j : Nat) : (marks m j).length = j * 3 := by simp [marks, List.length_flatten]
theorem marks_succ (m : ByteArray) (j : Nat) : marks m (j + 1) = marks m j ++ [Value.int .u8 0, .string m, .int .i64 0] := by
  simp [marks, List.replicate_succ', List.flatten_append]
theorem marks_get (m : ByteArray) : ∀ (j k : Nat) (l : List Value), k < j → (marks m j ++ l)[k * 3]? = some (.int .u8 0) ∧ (marks m j ++ l)[k * 3 + 1]? = some (.string m) ∧ (marks m j ++ l)[k * 3 + 2]? = some (.int .i64 0)
  | 0, k, l, h => by omega
  | j + 1, 0, l, h => by simp [marks, List.replicate_succ]
  | j + 1, k + 1, l, h => by
    have ih := marks_get m j k l (by omega)
    have e : marks m (j + 1) = [Value.int .u8 0, .string m, .int .i64 0] ++ marks m j := by simp [marks, List.replicate_succ]
    rw [e, List.append_assoc]
    have e1 : (k + 1) * 3 = 3 + k * 3 := by omega
    refine ⟨?_, ?_, ?_⟩
    · rw [e1, List.getElem?_append_right (by simp)]; simpa using ih.1
    · rw [e1, List.getElem?_append_right (by simp; omega)]; simpa [Nat.add_assoc] using ih.2.1
    · rw [e1, List.getElem?_append_right (by simp; omega)]; simpa [Nat.add_assoc] using ih.2.2
/-- a row of the call's own, read at a place -/
theorem own_get {w : World} {base g n cap : Nat} {e : TypeId} {xs : List Value} (h : w.ownsRow base e 3 (.slice (some ⟨g, 0, none⟩) n cap) n xs) (j : Nat) (u : Value) (hu : xs[j]? = some u) : w.cell? ⟨g, j, none⟩ = some u ∧ w.frozen? ⟨g, j, none⟩ = false ∧ g < w.heap.size := by
  obtain ⟨hl, h2⟩ := h
  rcases h2 with ⟨e1, _⟩ | ⟨g', cap', cur, e1, _, hh, _, _, _, ht⟩
  · cases e1
  · injection e1 with e1 e2 e3
    injection e1 with e1
    injection e1 with e1 e4 e5
    subst e1
    have hj := (List.getElem?_eq_some_iff.1 hu).1
    have : cur[j]? = some u := by
      rw [← ht, List.getElem?_take, if_pos (by omega)] at hu
      simpa using hu
    exact ⟨by simp [World.cell?, hh, this], by simp [World.frozen?, hh], (Array.getElem?_eq_some_iff.1 hh).1⟩
/-- .. and written at a place -/
theorem own_put {w : World} {base g n cap : Nat} {e : TypeId} {xs : List Value} (h : w.ownsRow base e 3 (.slice (some ⟨g, 0, none⟩) n cap) n xs) (j : Nat) (u : Value) : (w.setCell ⟨g, j, none⟩ u).ownsRow base e 3 (.slice (some ⟨g, 0, none⟩) n cap) n (xs.set j u) := by
  obtain ⟨hl, h2⟩ := h
  rcases h2 with ⟨e1, _⟩ | ⟨g', cap', cur, e1, hb, hh, h3, h4, h5, ht⟩
  · cases e1
  · injection e1 with e1 e2 e3
    injection e1 with e1
    injection e1 with e1 e4 e5
    subst e1 e3
    refine ⟨by rw [List.length_set]; exact hl, .inr ⟨g, cap, cur.setIfInBounds j u, rfl, hb, ?_, h3, h4, by simpa using h5, ?_⟩⟩
    · simp [World.setCell, Array.getElem?_modify, hh]
    · rw [Array.toList_setIfInBounds, List.take_set, ht]
theorem own_mark {w : World} {base g n cap k : Nat} {e : TypeId} {m : ByteArray} {ys : List Value} (h : w.ownsRow base e 3 (.slice (some ⟨g, 0, none⟩) n cap) n (marks m k ++ ys)) (hk : k < n) :
    (((w.setCell ⟨g, k * 3, none⟩ (.int .u8 0)).setCell ⟨g, k * 3 + 1, none⟩ (.string m)).setCell ⟨g, k * 3 + 2, none⟩ (.int .i64 0)).ownsRow base e 3 (.slice (some ⟨g, 0, none⟩) n cap) n (marks m (k + 1) ++ ys.drop 3) := by
  have h1 := own_put (own_put (own_put h (k * 3) (.int .u8 0)) (k * 3 + 1) (.string m)) (k * 3 + 2) (.int .i64 0)
  have hl := h.1
  rw [List.length_append, marks_len] at hl
  match ys, hl with
  | a :: b :: c :: zs, _ =>
    have e : (((marks m k ++ (a :: b :: c :: zs)).set (k * 3) (.int .u8 0)).set (k * 3 + 1) (.string m)).set (k * 3 + 2) (.int .i64 0) = marks m (k + 1) ++ (a :: b :: c :: zs).drop 3 := by
      rw [List.set_append_right _ _ (by rw [marks_len]; omega), List.set_append_right _ _ (by rw [marks_len]; omega), List.set_append_right _ _ (by rw [marks_len]; omega), marks_len, marks_succ]
      simp
    rw [← e]
    exact h1
  | [], hl => simp at hl; omega
  | [a], hl => simp at hl; omega
  | [a, b], hl => simp at hl; omega
end Go.Proofs.YtgebfcdpbeaknaaGreatDoor.Bk
end

/-! #### Append -/
section
set_option linter.unusedVariables false
set_option linter.unusedSimpArgs false
namespace Go.Proofs.YtgebfcdpbeaknaaGreatDoor.Ap
open Go Go.RowKit Go.Proofs.YtgebfcdpbeaknaaGreatDoorW.PrintWords
variable {P : Program}
theorem append_apart (w : World) (base : Nat) (t ty e : TypeId) (i : TypeInfo) (z : Value) (ht : P.underlying t = some (.slice e)) (hi : P.info? e = some i) (hz : i.zero = some z)
    (v : Value) (n : Nat) (xs : List Value) (hown : w.ownsRow base e i.size v n xs)
    (a : Addr) (m c : Nat) (hm : 0 < m) (news : List Value) (hl : news.length = m * i.size) (hnews : ∀ j u, news[j]? = some u → w.cell? (a.add j) = some u) (h1 : ∀ u ∈ news, u.oneCell' = true)
    (h63 : n + m ≤ maxLen) (hbytes : (n + m) * i.bytes ≤ 140737488355328) (v' : Value) (w' : World) (hr : (Builtin.append_ #[t, t] ty #[v, .slice (some a) m c]).run P w = .ok v' w') :
    v'.ownBlock = v.ownBlock ∨ ∀ b, b < w.heap.size → w'.heap[b]? = w.heap[b]? := by
  simp only [maxLen] at h63
  rcases hown.2 with ⟨rfl, rfl⟩ | ⟨g, cap, cur, rfl, hbg, hg, hnc, hcm, hcs, htake⟩
  · have hq := run_append_nil (P := P) w t ty e i z ht hi hz a m c news hl hnews (by omega) (by omega) (by have hb := hbytes; simp only [Nat.zero_add] at hb; omega)
    rw [hq] at hr
    injection hr with _ hr
    right
    intro b hb
    rw [← hr]
    exact heap_alloc_old w.drew _ hb
  · by_cases hroom : n + m ≤ cap
    · have hfit : n * i.size + news.length ≤ cur.size := by rw [hl, hcs, ← Nat.add_mul]; exact Nat.mul_le_mul_right _ hroom
      have hq := run_append_room (P := P) w t ty e i ht hi g n cap cur hg a m c news hl hnews h1 hroom hfit
      rw [hq] at hr
      injection hr with hr _
      left
      rw [← hr]
      rfl
    · have holds : ∀ j u, xs[j]? = some u → w.cell? ((⟨g, 0, none⟩ : Addr).add j) = some u := hown.cells (g := g) rfl
      have hq := run_append_grow (P := P) w t ty e i z ht hi hz ⟨g, 0, none⟩ n cap xs hown.1 holds a m c news hl hnews (by omega) (by omega) (growslice_fits (by omega) hbytes)
      rw [hq] at hr
      injection hr with _ hr
      right
      intro b hb
      rw [← hr]
      exact heap_alloc_old w.drew _ hb
section
variable {ops : Array Oper} {rest : List Oper} {o : Oper} {a : Act} {Q : Exit → Act → World → Prop}
/-- append(v, x), behind 'at_builtin'; the goal's world is 'W.alloc' of the variadic's box. -/
theorem append_cells {w0 W : World} (base : Nat) (hgd : o.guard = none) (s x : Operand) (t e : TypeId) (z : Value) (size bytes : Nat)
    (ho : o.op = .call { callee := .builtin .append, args := #[s, x], argTypes := #[t, t] })
    (ht : P.underlying t = some (.slice e)) (hinfo : (P.info? e).map (fun i => (i.zero, i.size, i.bytes)) = some (some z, size, bytes)) (hz : z.cells.size = size) (hs0 : 0 < size) (hb0 : 0 < bytes)
    (v : Value) (n : Nat) (xs ys : List Value) (hs : a.eval s = v) (hx : a.eval x = .slice (some ⟨W.heap.size, 0, none⟩) 1 1) (hys : ys.length = size) (h1 : ∀ u ∈ ys, u.oneCell' = true)
    (HO : W.ownsRow base e size v n xs) (hbase : base ≤ W.heap.size) (hl : (n + 1) * bytes ≤ 140737488355328)
    (h : ∀ v1 w1, w1.ownsRow base e size v1 (n + 1) (xs ++ ys) → W.grownBy w1 v.ownBlock → (v1.ownBlock = v.ownBlock ∨ ((∃ b, v1.ownBlock = some b ∧ W.heap.size ≤ b) ∧ ∀ b, b < W.heap.size → w1.heap[b]? = W.heap[b]?)) → wpList P ops Q rest (a.put o.dst v1) w1) :
    wpList P ops Q (o :: rest) a (W.alloc (.cells ys.toArray e)) := by
  obtain ⟨i0, hi, hzz⟩ := Option.map_eq_some_iff.1 hinfo
  simp only [Prod.mk.injEq] at hzz
  obtain ⟨hz0, rfl, rfl⟩ := hzz
  have hlen : n + 1 ≤ 140737488355328 := Nat.le_trans (Nat.le_mul_of_pos_right _ hb0) hl
  have hnews : ∀ j u, ys[j]? = some u → (W.alloc (.cells ys.toArray e)).cell? ((⟨W.heap.size, 0, none⟩ : Addr).add j) = some u := by
    simpa using World.news_of_block (cs := ys.toArray) (t := e) (fr := (0, 0)) (heap_alloc_new W (.cells ys.toArray e))
  have hown1 := HO.alloc (Obj.cells ys.toArray e)
  refine wpList_plain hgd fun K hK => ?_
  obtain ⟨v', w', hr, h2, h3, h4, h5⟩ := run_append_own_at (P := P) (W.alloc (.cells ys.toArray e)) base t o.type e i0 z i0.size i0.bytes ht hi hz0 rfl rfl hz hs0 v n xs hown1 ⟨W.heap.size, 0, none⟩ 1 1 ys (by rw [hys]; simp) hnews h1 (by simp only [maxLen]; omega) hl (by simp; omega)
  have h6 := append_apart (P := P) (W.alloc (.cells ys.toArray e)) base t o.type e i0 z ht hi hz0 v n xs hown1 ⟨W.heap.size, 0, none⟩ 1 1 (by decide) ys (by rw [hys]; simp) hnews h1 (by simp only [maxLen]; omega) hl v' w' hr
  have hgr : W.grownBy w' v.ownBlock := World.grownBy.trans (World.grownBy_alloc W _ _) h3
  unfold Oper.wp execOp
  simp only [ho, resolve, invoke, builtin, Sem.run_bind, Sem.run_pure, Result.andThen_ok, List.map_toArray, List.map_cons, List.map_nil, hs, hx, hr]
  refine hK _ _ (h v' w' h2 hgr ?_)
  rcases h5 with h5 | h5
  · exact .inl h5
  · rcases h6 with h6 | h6
    · exact .inl h6
    · refine .inr ⟨⟨_, h5, by simp⟩, fun b hb => ?_⟩
      rw [h6 b (by simp; omega)]
      exact heap_alloc_old W _ hb
end
end Go.Proofs.YtgebfcdpbeaknaaGreatDoor.Ap
end

/-! #### BookGrow -/
section
set_option linter.unusedVariables false
set_option linter.unusedSimpArgs false
namespace Go.Proofs.YtgebfcdpbeaknaaGreatDoor.Bk
open Go Go.RowKit Go.Proofs.YtgebfcdpbeaknaaGreatDoor.X Go.Proofs.YtgebfcdpbeaknaaGreatDoorW.PrintWords Go.Proofs.YtgebfcdpbeaknaaGreatDoorW.PrintLast
theorem marks_add (m : ByteArray) (a b : Nat) : marks m (a + b) = marks m a ++ marks m b := by
  simp [marks, ← List.replicate_append_replicate, List.flatten_append]
/-- the list at A reads as so many marks -/
def RD (w : World) (A : Option Addr) (n : Nat) (m : ByteArray) : Prop := ∀ j u, (marks m n)[j]? = some u → ∃ g, A = some ⟨g, 0, none⟩ ∧ w.cell? ⟨g, j, none⟩ = some u
theorem RD.move {w w' : World} {A : Option Addr} {n : Nat} {m : ByteArray} (h : RD w A n m) (hm : ∀ g, A = some ⟨g, 0, none⟩ → w'.heap[g]? = w.heap[g]?) : RD w' A n m := fun j u hu => by
  obtain ⟨g, hg, hc⟩ := h j u hu
  exact ⟨g, hg, (World.cell?_of_block (a := ⟨g, j, none⟩) (hm g hg)).trans hc⟩
theorem own_addr {w : World} {base n c : Nat} {e : TypeId} {A : Option Addr} {xs : List Value} (h : w.ownsRow base e 3 (.slice A n c) n xs) : n = 0 ∨ ∃ g, A = some ⟨g, 0, none⟩ := by
  rcases h.2 with ⟨_, h0⟩ | ⟨g, _, _, h0, _⟩
  · exact .inl h0
  · injection h0 with h0 _ _; exact .inr ⟨g, h0⟩
theorem RD_of_own {w : World} {base n k c ck : Nat} {A Ak : Option Addr} {e : TypeId} {m : ByteArray} (h : w.ownsRow base e 3 (.slice Ak (n + k) ck) (n + k) (marks m (n + k))) (hA : n = 0 ∨ ∃ g, A = some ⟨g, 0, none⟩) (hb : (Value.slice Ak (n + k) ck).ownBlock = (Value.slice A n c).ownBlock) : RD w A n m := fun j u hu => by
  rcases hA with rfl | ⟨g, rfl⟩
  · simp [marks] at hu
  · have hj := (List.getElem?_eq_some_iff.1 hu).1
    rw [marks_len] at hj
    rcases own_addr h with h0 | ⟨g', rfl⟩
    · omega
    · have : g' = g := by simpa [Value.ownBlock] using hb
      subst this
      refine ⟨g', rfl, (own_get h j u ?_).1⟩
      rw [marks_add, List.getElem?_append_left (by rw [marks_len]; exact hj)]
      exact hu
theorem Two.put1 {w : World} {kb tb : Nat} {n : Int} {cap : Nat} {va sa vb sb : Value} (h : Two w kb tb n cap va sa vb sb) (v : Value) : Two (w.setCell ⟨tb, 1, none⟩ v) kb tb n cap va v vb sb := by
  obtain ⟨cur, hc, ht⟩ := h.row
  have hne : kb ≠ tb := fun e => by
    have := h.book
    unfold Lies at this
    rw [e, hc] at this
    injection this with this
    injection this with _ h4
    exact absurd h4 (by decide)
  refine ⟨h.book.move (Below.heap_setCell w ⟨tb, 1, none⟩ v kb hne), cur.setIfInBounds 1 v, by simp [World.setCell, Array.getElem?_modify, hc], ?_⟩
  rw [Array.toList_setIfInBounds, List.take_set, ht]
  rfl
theorem Two.put4 {w : World} {kb tb : Nat} {n : Int} {cap : Nat} {va sa vb sb : Value} (h : Two w kb tb n cap va sa vb sb) (v : Value) : Two (w.setCell ⟨tb, 4, none⟩ v) kb tb n cap va sa vb v := by
  obtain ⟨cur, hc, ht⟩ := h.row
  have hne : kb ≠ tb := fun e => by
    have := h.book
    unfold Lies at this
    rw [e, hc] at this
    injection this with this
    injection this with _ h4
    exact absurd h4 (by decide)
  refine ⟨h.book.move (Below.heap_setCell w ⟨tb, 4, none⟩ v kb hne), cur.setIfInBounds 4 v, by simp [World.setCell, Array.getElem?_modify, hc], ?_⟩
  rw [Array.toList_setIfInBounds, List.take_set, ht]
  rfl
end Go.Proofs.YtgebfcdpbeaknaaGreatDoor.Bk
end

/-! #### X38 -/
section

namespace Go.Proofs.YtgebfcdpbeaknaaGreatDoor.X
open Go.RowKit Go.Proofs.YtgebfcdpbeaknaaGreatDoorW.PrintWords Go.Proofs.YtgebfcdpbeaknaaGreatDoorW.PrintLast Go.Proofs.YtgebfcdpbeaknaaGreatDoorW.PrintMore
attribute [local go_sem] max2_int min2_int max_two min_two max_three min_three max_four min_four   -- for this text's walks alone
set_option linter.unusedVariables false
set_option linter.unusedSimpArgs false

/-! ### assayerlaw01_Book_fillToken: function 23 -/
-- by hand: law01_fillToken.tpl
open Go.Proofs.YtgebfcdpbeaknaaGreatDoor.Bk
def Bk_textOf (c : Int) : ByteArray := if c = 1 then ⟨#[35, 49]⟩ else ⟨#[35, 50]⟩
def Bk_fillToken.f : Option Unit := some ()
set_option maxHeartbeats 8000000 in
set_option maxRecDepth 100000 in
theorem Bk_fillToken.calls (base : Nat) (w : World) (kb tb : Nat) (n : Int) (cap : Nat) (Aa : Option Addr) (na ca : Nat) (Ab : Option Addr) (nb cb : Nat) (xa xb : List Value) (hbase : base ≤ w.heap.size) (hT : Two w kb tb n cap (.slice Aa na ca) (.slice none 0 0) (.slice Ab nb cb) (.slice none 0 0))
    (ha : w.ownsRow base 52 3 (.slice Aa na ca) na xa) (hb : w.ownsRow base 52 3 (.slice Ab nb cb) nb xb) (hne : (Value.slice Aa na ca).ownBlock = none ∨ (Value.slice Aa na ca).ownBlock ≠ (Value.slice Ab nb cb).ownBlock) :
    Calls Tryz.prog 23 #[.pointer (some ⟨kb, 0, none⟩)] w fun e w' => e = .returned (.tuple #[]) ∧ Two w' kb tb n cap (.slice Aa na ca) (.slice none 0 0) (.slice Ab nb cb) (.slice none 0 0) ∧
      w'.ownsRow base 52 3 (.slice Aa na ca) na (marks ⟨#[35, 49]⟩ na) ∧ w'.ownsRow base 52 3 (.slice Ab nb cb) nb (marks ⟨#[35, 50]⟩ nb) ∧ Below base w w' := by
  have HT := Aside0.mk hT
  have HA := Aside0.mk ha
  have HB := Aside0.mk hb
  have hcT := hT.cell
  clear hT ha hb
  go_enter Tryz.func23, Tryz.ntmps23
  go_wp2
  go_loopw [2] (fun v2 wr => ∃ i : Nat, i ≤ 2 ∧ v2 = .int .i64 (i : Int) ∧ Aside0 (Two wr kb tb n cap (.slice Aa na ca) (.slice none 0 0) (.slice Ab nb cb) (.slice none 0 0)) ∧ Aside0 (wr.ownsRow base 52 3 (.slice Aa na ca) na (if 1 ≤ i then marks ⟨#[35, 49]⟩ na else xa)) ∧ Aside0 (wr.ownsRow base 52 3 (.slice Ab nb cb) nb (if 2 ≤ i then marks ⟨#[35, 50]⟩ nb else xb)) ∧ Aside0 (Below base w wr))
    (fun v2 _ => 2 - (intOf v2).toNat)
  case atStart => exact ⟨0, by omega, rfl, HT, HA, HB, ⟨Below.refl _ _⟩⟩
  case round =>
    clear HT HA HB hcT
    obtain ⟨i, hi, rfl, HT, HA, HB, HBe⟩ := hrel
    have hcT := HT.out.cell
    obtain ⟨wo, hwo⟩ : ∃ x, x = wr := ⟨_, rfl⟩
    subst hwo
    match i, hi with
    | 0, _ =>
      have q0 := (HT.out.at_ 0 _ rfl).1
      have q1 := (HT.out.at_ 1 _ rfl).1
      have q2 := (HT.out.at_ 2 _ rfl).1
      have HX : Aside0 (wo.ownsRow base 52 3 (.slice Aa na ca) na xa) := HA
      have HY : Aside0 (wo.ownsRow base 52 3 (.slice Ab nb cb) nb xb) := HB
      clear HA HB
      go_wp2
      go_loopw [4] (fun v4 wq => ∃ k : Nat, k ≤ na ∧ v4 = .int .i64 (k : Int) ∧ Aside0 (Two wq kb tb n cap (.slice Aa na ca) (.slice none 0 0) (.slice Ab nb cb) (.slice none 0 0)) ∧ Aside0 (wq.ownsRow base 52 3 (.slice Aa na ca) na (marks ⟨#[35, 49]⟩ k ++ xa.drop (k * 3))) ∧ Aside0 (wq.ownsRow base 52 3 (.slice Ab nb cb) nb (xb)) ∧ Aside0 (wq.heap[wo.heap.size]? = some (.cells #[.slice Aa na ca, .slice none 0 0, .int .i64 1] 63 (0, 0))) ∧ Aside0 (Below base w wq))
        (fun v4 _ => na - (intOf v4).toNat)
      case atStart =>
        refine ⟨0, Nat.zero_le _, rfl, ⟨HT.out.below (below_alloc (Below.refl _ wo) _)⟩, ⟨?_⟩, ⟨?_⟩, ⟨(MapKept.heap_alloc wo _).1⟩, ⟨HBe.out.alloc (Nat.le_trans hbase HBe.out.size) _⟩⟩
        · simpa [marks] using own_alloc HX.out _
        · exact own_alloc HY.out _
      case round =>
        obtain ⟨k, hk, rfl, HTq, HXq, HYq, HQ, HBq⟩ := hrel
        have hbx0 : wr.cell? ⟨wo.heap.size, 0, none⟩ = some (.slice Aa na ca) := by simp [World.cell?, HQ.out]
        have hbx2 : wr.cell? ⟨wo.heap.size, 2, none⟩ = some (.int .i64 1) := by simp [World.cell?, HQ.out]
        by_cases hlt : k < na
        · obtain ⟨g, rfl⟩ : ∃ g, Aa = some ⟨g, 0, none⟩ := by
            rcases HXq.out.2 with ⟨_, h0⟩ | ⟨g, _, _, h0, _⟩
            · omega
            · injection h0 with h0 _ _; exact ⟨g, h0⟩
          have hneX : some g ≠ (Value.slice Ab nb cb).ownBlock := by
            rcases hne with h | h
            · simp [Value.ownBlock] at h
            · exact h
          have hlen : (marks ⟨#[35, 49]⟩ k ++ xa.drop (k * 3)).length = na * 3 := HXq.out.1
          have hmx : na ≤ 9223372036854775807 := by
            rcases HXq.out.2 with ⟨_, h0⟩ | ⟨_, _, _, h0, _, _, h1, h2, _⟩
            · omega
            · exact Nat.le_trans h1 h2
          have hw64 : wrap64 ((k : Int) + 1) = (k : Int) + 1 := by unfold wrap64; omega
          obtain ⟨z0, hz0⟩ : ∃ z, (marks ⟨#[35, 49]⟩ k ++ xa.drop (k * 3))[k * 3]? = some z := ⟨_, List.getElem?_eq_getElem (by omega)⟩
          obtain ⟨z1, hz1⟩ : ∃ z, (marks ⟨#[35, 49]⟩ k ++ xa.drop (k * 3))[k * 3 + 1]? = some z := ⟨_, List.getElem?_eq_getElem (by omega)⟩
          obtain ⟨z2, hz2⟩ : ∃ z, (marks ⟨#[35, 49]⟩ k ++ xa.drop (k * 3))[k * 3 + 2]? = some z := ⟨_, List.getElem?_eq_getElem (by omega)⟩
          obtain ⟨hx0, hf0, hg0⟩ := own_get HXq.out _ _ hz0
          obtain ⟨hx1, hf1, _⟩ := own_get HXq.out _ _ hz1
          obtain ⟨hx2, hf2, _⟩ := own_get HXq.out _ _ hz2
          have hm : assayerlaw01_markToken.f 1 = some (0, ⟨#[35, 49]⟩, 0) := rfl
          have hd0 : decide ((k : Int) < (na : Int)) = true := decide_eq_true (by omega)
          have hd1 : decide (k < na) = true := decide_eq_true hlt
          have hd2 : (0 : Int) ≤ (k : Int) ∧ (k : Int) < (na : Int) := ⟨by omega, by omega⟩
          clear hz0 hz1 hz2 hlen q0 q1 q2
          go_wp2_with fail
          refine start_ (n := 8) (S := fun w' => w'.cell? ⟨wo.heap.size, 0, none⟩ = some (.slice (some ⟨g, 0, none⟩) na ca) ∧ w'.cell? ⟨wo.heap.size, 2, none⟩ = some (.int .i64 1)) (ds := [7]) #[false, false, false, false, false, false, false, false] (by kernel_rfl) rfl rfl ⟨hbx0, hbx2⟩ (fun hHeld => ?_)
          refine pure_ (i := 0) (N := some 28) (v := ?_) (a' := ?_) #[true, false, false, false, false, false, false, false] rfl rfl (by kernel_rfl) (fun _ _ _ h => h) (Or.inl ⟨by rfl, ?_⟩) ?_ ?_
          rotate_left
          · intro w'
            go_simp
            with_reducible rfl
          rotate_left
          · simp only [Act.put, List.setIfInBounds_toArray, List.set_cons_zero, List.set_cons_succ, i64_w, i32_w]
            rfl
          refine pure_ (i := 2) (N := some 30) (v := ?_) (a' := ?_) #[true, false, true, false, false, false, false, false] rfl rfl (by kernel_rfl) (fun _ _ _ h => h) (Or.inl ⟨by rfl, ?_⟩) ?_ ?_
          rotate_left
          · intro w'
            go_simp
            with_reducible rfl
          rotate_left
          · simp only [Act.put, List.setIfInBounds_toArray, List.set_cons_zero, List.set_cons_succ, i64_w, i32_w]
            rfl
          refine pure_ (i := 3) (N := some 31) (v := ?_) (a' := ?_) #[true, false, true, true, false, false, false, false] rfl rfl (by kernel_rfl) (fun _ _ _ h => h) (Or.inl ⟨by rfl, ?_⟩) ?_ ?_
          rotate_left
          · intro w'
            go_simp
            with_reducible rfl
          rotate_left
          · simp only [Act.put, List.setIfInBounds_toArray, List.set_cons_zero, List.set_cons_succ, i64_w, i32_w]
            rfl
          refine take_ (i := 1) (N := some 29) (v := ?_) (a' := ?_) #[true, true, true, true, false, false, false, false] rfl rfl (by kernel_rfl) (fun _ _ _ h => h) (Or.inl ⟨by rfl, ?_⟩) hHeld ?_ ?_
          rotate_left
          · rintro w' ⟨s0, s1⟩
            go_simp
            with_reducible rfl
          rotate_left
          · simp only [Act.put, List.setIfInBounds_toArray, List.set_cons_zero, List.set_cons_succ, i64_w, i32_w]
            rfl
          refine take_ (i := 4) (N := some 32) (v := ?_) (a' := ?_) #[true, true, true, true, true, false, false, false] rfl rfl (by kernel_rfl) (fun _ _ _ h => h) (Or.inl ⟨by rfl, ?_⟩) hHeld ?_ ?_
          rotate_left
          · rintro w' ⟨s0, s1⟩
            go_simp
            with_reducible rfl
          rotate_left
          · simp only [Act.put, List.setIfInBounds_toArray, List.set_cons_zero, List.set_cons_succ, i64_w, i32_w]
            rfl
          refine one_ (i := 5) (N := some 33) #[true, true, true, true, true, true, false, false] rfl rfl (by kernel_rfl) (by decide) (fun K hK => ?_)
          refine goes_ Tryz.func67 (by kernel_rfl) rfl #[.int .i64 1] (by rfl) rfl rfl (by simp only [List.map_toArray, List.map_cons, List.map_nil]; rfl) ?_
          with_reducible refine (assayerlaw01_markToken.calls 1 0 ⟨#[35, 49]⟩ 0 _ hm).mono ?_
          rintro e w3 ⟨rfl, hb5⟩
          have HB5 := Aside0.mk (show Below wr.heap.size wr w3 from ⟨hb5.os, hb5.tape, hb5.output, hb5.size, hb5.block⟩)
          have hy0 : w3.cell? ⟨g, k * 3, none⟩ = some z0 := (HB5.out.cell (p := ⟨g, k * 3, none⟩) hg0).trans hx0
          have hy1 : w3.cell? ⟨g, k * 3 + 1, none⟩ = some z1 := (HB5.out.cell (p := ⟨g, k * 3 + 1, none⟩) hg0).trans hx1
          have hy2 : w3.cell? ⟨g, k * 3 + 2, none⟩ = some z2 := (HB5.out.cell (p := ⟨g, k * 3 + 2, none⟩) hg0).trans hx2
          have hw0 : w3.frozen? ⟨g, k * 3, none⟩ = false := (HB5.out.frozen (p := ⟨g, k * 3, none⟩) hg0).trans hf0
          have hw1 : w3.frozen? ⟨g, k * 3 + 1, none⟩ = false := (HB5.out.frozen (p := ⟨g, k * 3 + 1, none⟩) hg0).trans hf1
          have hw2 : w3.frozen? ⟨g, k * 3 + 2, none⟩ = false := (HB5.out.frozen (p := ⟨g, k * 3 + 2, none⟩) hg0).trans hf2
          refine ⟨_, rfl, ?_⟩
          refine hK.out _ _ ⟨((HB5.out.cell (p := ⟨wo.heap.size, 0, none⟩) (Array.getElem?_eq_some_iff.1 HQ.out).1).trans hbx0), ((HB5.out.cell (p := ⟨wo.heap.size, 2, none⟩) (Array.getElem?_eq_some_iff.1 HQ.out).1).trans hbx2)⟩ (fun hHeld => ?_)
          clear hK K
          refine norm_ (a' := ?_) ?_ ?_
          rotate_left
          · show Act.put _ (some 33) _ = _
            simp only [Act.put, List.setIfInBounds_toArray, List.set_cons_zero, List.set_cons_succ, i64_w, i32_w]
            rfl
          refine pure_ (i := 6) (N := some 34) (v := ?_) (a' := ?_) #[true, true, true, true, true, true, true, false] rfl rfl (by kernel_rfl) (fun _ _ _ h => h) (Or.inl ⟨by rfl, ?_⟩) ?_ ?_
          rotate_left
          · intro w'
            go_simp
            with_reducible rfl
          rotate_left
          · simp only [Act.put, List.setIfInBounds_toArray, List.set_cons_zero, List.set_cons_succ, i64_w, i32_w]
            rfl
          refine last_ (i := 7) (N := none) #[true, true, true, true, true, true, true, true] rfl rfl (by kernel_rfl) (by decide) (fun K hK => ?_)
          refine skip_ (w1 := ?_) (by rfl) rfl ?_ ?_
          rotate_left
          · go_simp
            rfl
          refine hK.out _ _ ?_
          clear hK K
          refine done_ (by kernel_rfl) ?_
          go_wp2
          have hb := HB5.out
          have HX3 := own_move HXq.out (fun b hb2 => (show w3.heap[b]? = wr.heap[b]? from hb.block b (own_lt HXq.out b hb2)))
          have HY3 := own_move HYq.out (fun b hb2 => (show w3.heap[b]? = wr.heap[b]? from hb.block b (own_lt HYq.out b hb2)))
          have HT3 := HTq.out.move (w' := w3) (hb.block _ HTq.out.book.lt) (hb.block _ HTq.out.tlt)
          have HQ3 : w3.heap[wo.heap.size]? = _ := (hb.block _ (Array.getElem?_eq_some_iff.1 HQ.out).1).trans HQ.out
          have n1 : kb ≠ g := fun e => own_ne HX3 HT3.book (by decide) (by rw [e]; rfl)
          obtain ⟨cur, hcur, _⟩ := HT3.row
          have n2 : tb ≠ g := fun e => own_ne HX3 hcur (by decide) (by rw [e]; rfl)
          have n3 : wo.heap.size ≠ g := fun e => own_ne HX3 HQ3 (by decide) (by rw [e]; rfl)
          have far : ∀ b, b ≠ g → (((w3.setCell ⟨g, k * 3, none⟩ (.int .u8 0)).setCell ⟨g, k * 3 + 1, none⟩ (.string ⟨#[35, 49]⟩)).setCell ⟨g, k * 3 + 2, none⟩ (.int .i64 0)).heap[b]? = w3.heap[b]? := fun b hb2 => by
            rw [Below.heap_setCell _ ⟨g, k * 3 + 2, none⟩ _ b hb2, Below.heap_setCell _ ⟨g, k * 3 + 1, none⟩ _ b hb2, Below.heap_setCell _ ⟨g, k * 3, none⟩ _ b hb2]
          clear hd0 hd1 hd2
          have hgb : base ≤ g := own_base HX3 g rfl
          have HB3 : Below base w w3 := below_then HBq.out (Nat.le_trans hbase HBq.out.size) ⟨hb.os, hb.tape, hb.output, hb.size, hb.block⟩
          go_roundw
          case rel =>
            refine ⟨k + 1, by omega, rfl, ⟨HT3.move (far _ n1) (far _ n2)⟩, ⟨?_⟩, ⟨own_setCell (own_setCell (own_setCell HY3 (p := ⟨g, k * 3, none⟩) hneX _) (p := ⟨g, k * 3 + 1, none⟩) hneX _) (p := ⟨g, k * 3 + 2, none⟩) hneX _⟩, ⟨(far _ n3).trans HQ3⟩, ⟨((HB3.setCell (p := ⟨g, k * 3, none⟩) hgb _).setCell (p := ⟨g, k * 3 + 1, none⟩) hgb _).setCell (p := ⟨g, k * 3 + 2, none⟩) hgb _⟩⟩
            have := own_mark HX3 hlt
            rw [List.drop_drop] at this
            rw [show (k + 1) * 3 = k * 3 + 3 by omega]
            exact this
          case measure => simp only [intOf]; omega
        · have hkn : k = na := by omega
          have hd0 : decide ((k : Int) < (na : Int)) = false := decide_eq_false (by omega)
          have hd1 : decide (k < na) = false := decide_eq_false (by omega)
          have hxl : xa.drop (na * 3) = [] := by
            have := HX.out.1
            exact List.drop_of_length_le (by omega)
          have hX := HXq.out
          rw [hkn, hxl, List.append_nil] at hX
          have HX2 := Aside0.mk hX
          clear hX hxl hkn hk hlt
          go_wp2
          exact ⟨⟨1, by omega, rfl, HTq, ⟨by rw [if_pos (by omega)]; exact HX2.out⟩, ⟨by rw [if_neg (by omega)]; exact HYq.out⟩, HBq⟩, by simp [intOf]⟩
    | 1, _ =>
      have q0 := (HT.out.at_ 3 _ rfl).1
      have q1 := (HT.out.at_ 4 _ rfl).1
      have q2 := (HT.out.at_ 5 _ rfl).1
      have HX : Aside0 (wo.ownsRow base 52 3 (.slice Ab nb cb) nb xb) := HB
      have HY : Aside0 (wo.ownsRow base 52 3 (.slice Aa na ca) na (marks ⟨#[35, 49]⟩ na)) := HA
      clear HA HB
      go_wp2
      go_loopw [4] (fun v4 wq => ∃ k : Nat, k ≤ nb ∧ v4 = .int .i64 (k : Int) ∧ Aside0 (Two wq kb tb n cap (.slice Aa na ca) (.slice none 0 0) (.slice Ab nb cb) (.slice none 0 0)) ∧ Aside0 (wq.ownsRow base 52 3 (.slice Ab nb cb) nb (marks ⟨#[35, 50]⟩ k ++ xb.drop (k * 3))) ∧ Aside0 (wq.ownsRow base 52 3 (.slice Aa na ca) na (marks ⟨#[35, 49]⟩ na)) ∧ Aside0 (wq.heap[wo.heap.size]? = some (.cells #[.slice Ab nb cb, .slice none 0 0, .int .i64 2] 63 (0, 0))) ∧ Aside0 (Below base w wq))
        (fun v4 _ => nb - (intOf v4).toNat)
      case atStart =>
        refine ⟨0, Nat.zero_le _, rfl, ⟨HT.out.below (below_alloc (Below.refl _ wo) _)⟩, ⟨?_⟩, ⟨?_⟩, ⟨(MapKept.heap_alloc wo _).1⟩, ⟨HBe.out.alloc (Nat.le_trans hbase HBe.out.size) _⟩⟩
        · simpa [marks] using own_alloc HX.out _
        · exact own_alloc HY.out _
      case round =>
        obtain ⟨k, hk, rfl, HTq, HXq, HYq, HQ, HBq⟩ := hrel
        have hbx0 : wr.cell? ⟨wo.heap.size, 0, none⟩ = some (.slice Ab nb cb) := by simp [World.cell?, HQ.out]
        have hbx2 : wr.cell? ⟨wo.heap.size, 2, none⟩ = some (.int .i64 2) := by simp [World.cell?, HQ.out]
        by_cases hlt : k < nb
        · obtain ⟨g, rfl⟩ : ∃ g, Ab = some ⟨g, 0, none⟩ := by
            rcases HXq.out.2 with ⟨_, h0⟩ | ⟨g, _, _, h0, _⟩
            · omega
            · injection h0 with h0 _ _; exact ⟨g, h0⟩
          have hneX : some g ≠ (Value.slice Aa na ca).ownBlock := by
            rcases hne with h | h
            · rw [h]; simp
            · exact fun e => h e.symm
          have hlen : (marks ⟨#[35, 50]⟩ k ++ xb.drop (k * 3)).length = nb * 3 := HXq.out.1
          have hmx : nb ≤ 9223372036854775807 := by
            rcases HXq.out.2 with ⟨_, h0⟩ | ⟨_, _, _, h0, _, _, h1, h2, _⟩
            · omega
            · exact Nat.le_trans h1 h2
          have hw64 : wrap64 ((k : Int) + 1) = (k : Int) + 1 := by unfold wrap64; omega
          obtain ⟨z0, hz0⟩ : ∃ z, (marks ⟨#[35, 50]⟩ k ++ xb.drop (k * 3))[k * 3]? = some z := ⟨_, List.getElem?_eq_getElem (by omega)⟩
          obtain ⟨z1, hz1⟩ : ∃ z, (marks ⟨#[35, 50]⟩ k ++ xb.drop (k * 3))[k * 3 + 1]? = some z := ⟨_, List.getElem?_eq_getElem (by omega)⟩
          obtain ⟨z2, hz2⟩ : ∃ z, (marks ⟨#[35, 50]⟩ k ++ xb.drop (k * 3))[k * 3 + 2]? = some z := ⟨_, List.getElem?_eq_getElem (by omega)⟩
          obtain ⟨hx0, hf0, hg0⟩ := own_get HXq.out _ _ hz0
          obtain ⟨hx1, hf1, _⟩ := own_get HXq.out _ _ hz1
          obtain ⟨hx2, hf2, _⟩ := own_get HXq.out _ _ hz2
          have hm : assayerlaw01_markToken.f 2 = some (0, ⟨#[35, 50]⟩, 0) := rfl
          have hd0 : decide ((k : Int) < (nb : Int)) = true := decide_eq_true (by omega)
          have hd1 : decide (k < nb) = true := decide_eq_true hlt
          have hd2 : (0 : Int) ≤ (k : Int) ∧ (k : Int) < (nb : Int) := ⟨by omega, by omega⟩
          clear hz0 hz1 hz2 hlen q0 q1 q2
          go_wp2_with fail
          refine start_ (n := 8) (S := fun w' => w'.cell? ⟨wo.heap.size, 0, none⟩ = some (.slice (some ⟨g, 0, none⟩) nb cb) ∧ w'.cell? ⟨wo.heap.size, 2, none⟩ = some (.int .i64 2)) (ds := [7]) #[false, false, false, false, false, false, false, false] (by kernel_rfl) rfl rfl ⟨hbx0, hbx2⟩ (fun hHeld => ?_)
          refine pure_ (i := 0) (N := some 28) (v := ?_) (a' := ?_) #[true, false, false, false, false, false, false, false] rfl rfl (by kernel_rfl) (fun _ _ _ h => h) (Or.inl ⟨by rfl, ?_⟩) ?_ ?_
          rotate_left
          · intro w'
            go_simp
            with_reducible rfl
          rotate_left
          · simp only [Act.put, List.setIfInBounds_toArray, List.set_cons_zero, List.set_cons_succ, i64_w, i32_w]
            rfl
          refine pure_ (i := 2) (N := some 30) (v := ?_) (a' := ?_) #[true, false, true, false, false, false, false, false] rfl rfl (by kernel_rfl) (fun _ _ _ h => h) (Or.inl ⟨by rfl, ?_⟩) ?_ ?_
          rotate_left
          · intro w'
            go_simp
            with_reducible rfl
          rotate_left
          · simp only [Act.put, List.setIfInBounds_toArray, List.set_cons_zero, List.set_cons_succ, i64_w, i32_w]
            rfl
          refine pure_ (i := 3) (N := some 31) (v := ?_) (a' := ?_) #[true, false, true, true, false, false, false, false] rfl rfl (by kernel_rfl) (fun _ _ _ h => h) (Or.inl ⟨by rfl, ?_⟩) ?_ ?_
          rotate_left
          · intro w'
            go_simp
            with_reducible rfl
          rotate_left
          · simp only [Act.put, List.setIfInBounds_toArray, List.set_cons_zero, List.set_cons_succ, i64_w, i32_w]
            rfl
          refine take_ (i := 1) (N := some 29) (v := ?_) (a' := ?_) #[true, true, true, true, false, false, false, false] rfl rfl (by kernel_rfl) (fun _ _ _ h => h) (Or.inl ⟨by rfl, ?_⟩) hHeld ?_ ?_
          rotate_left
          · rintro w' ⟨s0, s1⟩
            go_simp
            with_reducible rfl
          rotate_left
          · simp only [Act.put, List.setIfInBounds_toArray, List.set_cons_zero, List.set_cons_succ, i64_w, i32_w]
            rfl
          refine take_ (i := 4) (N := some 32) (v := ?_) (a' := ?_) #[true, true, true, true, true, false, false, false] rfl rfl (by kernel_rfl) (fun _ _ _ h => h) (Or.inl ⟨by rfl, ?_⟩) hHeld ?_ ?_
          rotate_left
          · rintro w' ⟨s0, s1⟩
            go_simp
            with_reducible rfl
          rotate_left
          · simp only [Act.put, List.setIfInBounds_toArray, List.set_cons_zero, List.set_cons_succ, i64_w, i32_w]
            rfl
          refine one_ (i := 5) (N := some 33) #[true, true, true, true, true, true, false, false] rfl rfl (by kernel_rfl) (by decide) (fun K hK => ?_)
          refine goes_ Tryz.func67 (by kernel_rfl) rfl #[.int .i64 2] (by rfl) rfl rfl (by simp only [List.map_toArray, List.map_cons, List.map_nil]; rfl) ?_
          with_reducible refine (assayerlaw01_markToken.calls 2 0 ⟨#[35, 50]⟩ 0 _ hm).mono ?_
          rintro e w3 ⟨rfl, hb5⟩
          have HB5 := Aside0.mk (show Below wr.heap.size wr w3 from ⟨hb5.os, hb5.tape, hb5.output, hb5.size, hb5.block⟩)
          have hy0 : w3.cell? ⟨g, k * 3, none⟩ = some z0 := (HB5.out.cell (p := ⟨g, k * 3, none⟩) hg0).trans hx0
          have hy1 : w3.cell? ⟨g, k * 3 + 1, none⟩ = some z1 := (HB5.out.cell (p := ⟨g, k * 3 + 1, none⟩) hg0).trans hx1
          have hy2 : w3.cell? ⟨g, k * 3 + 2, none⟩ = some z2 := (HB5.out.cell (p := ⟨g, k * 3 + 2, none⟩) hg0).trans hx2
          have hw0 : w3.frozen? ⟨g, k * 3, none⟩ = false := (HB5.out.frozen (p := ⟨g, k * 3, none⟩) hg0).trans hf0
          have hw1 : w3.frozen? ⟨g, k * 3 + 1, none⟩ = false := (HB5.out.frozen (p := ⟨g, k * 3 + 1, none⟩) hg0).trans hf1
          have hw2 : w3.frozen? ⟨g, k * 3 + 2, none⟩ = false := (HB5.out.frozen (p := ⟨g, k * 3 + 2, none⟩) hg0).trans hf2
          refine ⟨_, rfl, ?_⟩
          refine hK.out _ _ ⟨((HB5.out.cell (p := ⟨wo.heap.size, 0, none⟩) (Array.getElem?_eq_some_iff.1 HQ.out).1).trans hbx0), ((HB5.out.cell (p := ⟨wo.heap.size, 2, none⟩) (Array.getElem?_eq_some_iff.1 HQ.out).1).trans hbx2)⟩ (fun hHeld => ?_)
          clear hK K
          refine norm_ (a' := ?_) ?_ ?_
          rotate_left
          · show Act.put _ (some 33) _ = _
            simp only [Act.put, List.setIfInBounds_toArray, List.set_cons_zero, List.set_cons_succ, i64_w, i32_w]
            rfl
          refine pure_ (i := 6) (N := some 34) (v := ?_) (a' := ?_) #[true, true, true, true, true, true, true, false] rfl rfl (by kernel_rfl) (fun _ _ _ h => h) (Or.inl ⟨by rfl, ?_⟩) ?_ ?_
          rotate_left
          · intro w'
            go_simp
            with_reducible rfl
          rotate_left
          · simp only [Act.put, List.setIfInBounds_toArray, List.set_cons_zero, List.set_cons_succ, i64_w, i32_w]
            rfl
          refine last_ (i := 7) (N := none) #[true, true, true, true, true, true, true, true] rfl rfl (by kernel_rfl) (by decide) (fun K hK => ?_)
          refine skip_ (w1 := ?_) (by rfl) rfl ?_ ?_
          rotate_left
          · go_simp
            rfl
          refine hK.out _ _ ?_
          clear hK K
          refine done_ (by kernel_rfl) ?_
          go_wp2
          have hb := HB5.out
          have HX3 := own_move HXq.out (fun b hb2 => (show w3.heap[b]? = wr.heap[b]? from hb.block b (own_lt HXq.out b hb2)))
          have HY3 := own_move HYq.out (fun b hb2 => (show w3.heap[b]? = wr.heap[b]? from hb.block b (own_lt HYq.out b hb2)))
          have HT3 := HTq.out.move (w' := w3) (hb.block _ HTq.out.book.lt) (hb.block _ HTq.out.tlt)
          have HQ3 : w3.heap[wo.heap.size]? = _ := (hb.block _ (Array.getElem?_eq_some_iff.1 HQ.out).1).trans HQ.out
          have n1 : kb ≠ g := fun e => own_ne HX3 HT3.book (by decide) (by rw [e]; rfl)
          obtain ⟨cur, hcur, _⟩ := HT3.row
          have n2 : tb ≠ g := fun e => own_ne HX3 hcur (by decide) (by rw [e]; rfl)
          have n3 : wo.heap.size ≠ g := fun e => own_ne HX3 HQ3 (by decide) (by rw [e]; rfl)
          have far : ∀ b, b ≠ g → (((w3.setCell ⟨g, k * 3, none⟩ (.int .u8 0)).setCell ⟨g, k * 3 + 1, none⟩ (.string ⟨#[35, 50]⟩)).setCell ⟨g, k * 3 + 2, none⟩ (.int .i64 0)).heap[b]? = w3.heap[b]? := fun b hb2 => by
            rw [Below.heap_setCell _ ⟨g, k * 3 + 2, none⟩ _ b hb2, Below.heap_setCell _ ⟨g, k * 3 + 1, none⟩ _ b hb2, Below.heap_setCell _ ⟨g, k * 3, none⟩ _ b hb2]
          clear hd0 hd1 hd2
          have hgb : base ≤ g := own_base HX3 g rfl
          have HB3 : Below base w w3 := below_then HBq.out (Nat.le_trans hbase HBq.out.size) ⟨hb.os, hb.tape, hb.output, hb.size, hb.block⟩
          go_roundw
          case rel =>
            refine ⟨k + 1, by omega, rfl, ⟨HT3.move (far _ n1) (far _ n2)⟩, ⟨?_⟩, ⟨own_setCell (own_setCell (own_setCell HY3 (p := ⟨g, k * 3, none⟩) hneX _) (p := ⟨g, k * 3 + 1, none⟩) hneX _) (p := ⟨g, k * 3 + 2, none⟩) hneX _⟩, ⟨(far _ n3).trans HQ3⟩, ⟨((HB3.setCell (p := ⟨g, k * 3, none⟩) hgb _).setCell (p := ⟨g, k * 3 + 1, none⟩) hgb _).setCell (p := ⟨g, k * 3 + 2, none⟩) hgb _⟩⟩
            have := own_mark HX3 hlt
            rw [List.drop_drop] at this
            rw [show (k + 1) * 3 = k * 3 + 3 by omega]
            exact this
          case measure => simp only [intOf]; omega
        · have hkn : k = nb := by omega
          have hd0 : decide ((k : Int) < (nb : Int)) = false := decide_eq_false (by omega)
          have hd1 : decide (k < nb) = false := decide_eq_false (by omega)
          have hxl : xb.drop (nb * 3) = [] := by
            have := HX.out.1
            exact List.drop_of_length_le (by omega)
          have hX := HXq.out
          rw [hkn, hxl, List.append_nil] at hX
          have HX2 := Aside0.mk hX
          clear hX hxl hkn hk hlt
          go_wp2
          exact ⟨⟨2, by omega, rfl, HTq, ⟨by rw [if_pos (by omega)]; exact HYq.out⟩, ⟨by rw [if_pos (by omega)]; exact HX2.out⟩, HBq⟩, by simp [intOf]⟩
    | 2, _ => 
      have hA := HA.out
      have hB := HB.out
      clear HA HB
      simp only [show (1 : Nat) ≤ 2 from by decide, Nat.le_refl, if_true] at hA hB
      have HA := Aside0.mk hA
      have HB := Aside0.mk hB
      clear hA hB
      go_wp2
      go_end0
      exact ⟨rfl, HT.out, HA.out, HB.out, HBe.out⟩

end Go.Proofs.YtgebfcdpbeaknaaGreatDoor.X
end

/-! #### X56 -/
section

namespace Go.Proofs.YtgebfcdpbeaknaaGreatDoor.X
open Go.RowKit Go.Proofs.YtgebfcdpbeaknaaGreatDoorW.PrintWords Go.Proofs.YtgebfcdpbeaknaaGreatDoorW.PrintLast Go.Proofs.YtgebfcdpbeaknaaGreatDoorW.PrintMore
attribute [local go_sem] max2_int min2_int max_two min_two max_three min_three max_four min_four   -- for this text's walks alone
set_option linter.unusedVariables false
set_option linter.unusedSimpArgs false

/-! ### assayerlaw01_Book_growToken: function 35 -/
-- by hand: law01_growToken.tpl
open Go.Proofs.YtgebfcdpbeaknaaGreatDoor.Bk
def Bk_growToken.f : Option Unit := some ()
set_option maxHeartbeats 8000000 in
set_option maxRecDepth 100000 in
theorem Bk_growToken.calls (base : Nat) (w : World) (kb tb : Nat) (n : Int) (cap : Nat) (Aa : Option Addr) (na ca : Nat) (Ab : Option Addr) (nb cb : Nat) (hna : na ≤ 1000000) (hnb : nb ≤ 1000000) (hbase : base ≤ w.heap.size) (htb : base ≤ tb) (hT : Two w kb tb n cap (.slice Aa na ca) (.slice none 0 0) (.slice Ab nb cb) (.slice none 0 0))
    (ha : w.ownsRow base 52 3 (.slice Aa na ca) na (marks ⟨#[35, 49]⟩ na)) (hb : w.ownsRow base 52 3 (.slice Ab nb cb) nb (marks ⟨#[35, 50]⟩ nb)) (hne : (Value.slice Aa na ca).ownBlock = none ∨ (Value.slice Aa na ca).ownBlock ≠ (Value.slice Ab nb cb).ownBlock) :
    Calls Tryz.prog 35 #[.pointer (some ⟨kb, 0, none⟩)] w fun e w' => e = .returned (.tuple #[]) ∧ ∃ As cs Bs ds, Two w' kb tb n cap (.slice Aa na ca) (.slice As (na + 40) cs) (.slice Ab nb cb) (.slice Bs (nb + 40) ds) ∧
      w'.ownsRow base 52 3 (.slice As (na + 40) cs) (na + 40) (marks ⟨#[35, 49]⟩ (na + 40)) ∧ w'.ownsRow base 52 3 (.slice Bs (nb + 40) ds) (nb + 40) (marks ⟨#[35, 50]⟩ (nb + 40)) ∧ RD w' Aa na ⟨#[35, 49]⟩ ∧ RD w' Ab nb ⟨#[35, 50]⟩ ∧ Below base w w' := by
  have HT := Aside0.mk hT
  have HA := Aside0.mk ha
  have HB := Aside0.mk hb
  have hcT := hT.cell
  have HTA := Aside0.mk (show ∀ g, Aa = some ⟨g, 0, none⟩ → g ≠ tb from fun g hg e => by
    obtain ⟨cur, hc, _⟩ := hT.row
    exact own_ne ha hc (by decide) (by rw [hg, ← e]; rfl))
  clear hT ha hb
  go_enter Tryz.func35, Tryz.ntmps35
  go_wp2
  go_loopw [2] (fun v2 wr => ∃ i : Nat, i ≤ 2 ∧ v2 = .int .i64 (i : Int) ∧ ∃ As ls cs Bs lt ds, Aside0 (Two wr kb tb n cap (.slice Aa na ca) (.slice As ls cs) (.slice Ab nb cb) (.slice Bs lt ds)) ∧
      Aside0 (i = 0 → wr.ownsRow base 52 3 (.slice Aa na ca) na (marks ⟨#[35, 49]⟩ na)) ∧ Aside0 (i ≤ 1 → wr.ownsRow base 52 3 (.slice Ab nb cb) nb (marks ⟨#[35, 50]⟩ nb)) ∧
      Aside0 (1 ≤ i → ls = na + 40 ∧ wr.ownsRow base 52 3 (.slice As (na + 40) cs) (na + 40) (marks ⟨#[35, 49]⟩ (na + 40)) ∧ RD wr Aa na ⟨#[35, 49]⟩ ∧ ∀ g, (Value.slice Ab nb cb).ownBlock = some g → (Value.slice As (na + 40) cs).ownBlock ≠ some g) ∧
      Aside0 (2 ≤ i → lt = nb + 40 ∧ wr.ownsRow base 52 3 (.slice Bs (nb + 40) ds) (nb + 40) (marks ⟨#[35, 50]⟩ (nb + 40)) ∧ RD wr Ab nb ⟨#[35, 50]⟩) ∧ Aside0 (Below base w wr))
    (fun v2 _ => 2 - (intOf v2).toNat)
  case atStart => exact ⟨0, by omega, rfl, _, _, _, _, _, _, HT, ⟨fun _ => HA.out⟩, ⟨fun _ => HB.out⟩, ⟨fun h => by omega⟩, ⟨fun h => by omega⟩, ⟨Below.refl _ _⟩⟩
  case round =>
    clear HT HA HB hcT
    obtain ⟨i, hi, rfl, As, ls, cs, Bs, lt, ds, HT, HA, HB, H1, H2, HBe⟩ := hrel
    have hcT := HT.out.cell
    obtain ⟨wo, hwo⟩ : ∃ x, x = wr := ⟨_, rfl⟩
    subst hwo
    match i, hi with
    | 0, _ =>
      have q0 := (HT.out.at_ 0 _ rfl).1
      have q1 := (HT.out.at_ 1 _ rfl).1
      have q2 := (HT.out.at_ 2 _ rfl).1
      have hX : wo.ownsRow base 52 3 (.slice Aa na ca) na (marks ⟨#[35, 49]⟩ na) := HA.out rfl
      have hAa := own_addr hX
      have HX := Aside0.mk hX
      have hXlt : ∀ g, Aa = some ⟨g, 0, none⟩ → g < wo.heap.size := fun g hg => own_lt HX.out g (by rw [hg]; rfl)
      have HLT := Aside0.mk hXlt
      have hm : assayerlaw01_markToken.f 1 = some (0, ⟨#[35, 49]⟩, 0) := rfl
      clear hX hXlt
      try rw [show ((1 : Nat) : Int) = 1 from rfl]
      go_wp2
      go_loopw [4, 5] (fun v4 v5 wq => ∃ k : Nat, k ≤ 40 ∧ v5 = .int .i64 (k : Int) ∧ ∃ Ak ck, v4 = .slice Ak (na + k) ck ∧ Aside0 (wq.ownsRow base 52 3 (.slice Ak (na + k) ck) (na + k) (marks ⟨#[35, 49]⟩ (na + k))) ∧
          Aside0 ((Value.slice Ak (na + k) ck).ownBlock = (Value.slice Aa na ca).ownBlock ∨ ((∃ b, (Value.slice Ak (na + k) ck).ownBlock = some b ∧ wo.heap.size ≤ b) ∧ RD wq Aa na ⟨#[35, 49]⟩)) ∧
          Aside0 (∀ b, b < wo.heap.size → some b ≠ (Value.slice Aa na ca).ownBlock → wq.heap[b]? = wo.heap[b]?) ∧ Aside0 (wo.heap.size ≤ wq.heap.size) ∧ Aside0 (wq.heap[wo.heap.size]? = some (.cells #[.slice Aa na ca, .slice As ls cs, .int .i64 1] 63 (0, 0))) ∧ Aside0 (Below base w wq))
        (fun _ v5 _ => 40 - (intOf v5).toNat)
      case atStart =>
        exact ⟨0, by omega, rfl, _, _, rfl, ⟨own_alloc HX.out _⟩, ⟨.inl rfl⟩, ⟨fun b hb _ => (MapKept.heap_alloc wo _).2 b hb⟩, ⟨by simp⟩, ⟨(MapKept.heap_alloc wo _).1⟩, ⟨HBe.out.alloc (Nat.le_trans hbase HBe.out.size) _⟩⟩
      case round =>
        obtain ⟨k, hk, rfl, Ak, ck, rfl, HXq, HLK, HFR, HSZ, HQ, HBq⟩ := hrel
        have hbx2 : wr.cell? ⟨wo.heap.size, 2, none⟩ = some (.int .i64 1) := by simp [World.cell?, HQ.out]
        by_cases hlt : k < 40
        · have hd0 : decide ((k : Int) < 40) = true := decide_eq_true (by omega)
          have hd1 : decide (k < 40) = true := decide_eq_true hlt
          have hw64 : wrap64 ((k : Int) + 1) = (k : Int) + 1 := by unfold wrap64; omega
          clear q0 q1 q2
          go_wp2_with fail
          with_reducible refine (assayerlaw01_markToken.calls 1 0 ⟨#[35, 49]⟩ 0 _ hm).mono ?_
          rintro e w3 ⟨rfl, hb⟩
          have HX3 := Aside0.mk (own_move HXq.out (fun b hb2 => hb.block b (own_lt HXq.out b hb2)))
          have HQ3 := Aside0.mk ((hb.block _ (Array.getElem?_eq_some_iff.1 HQ.out).1).trans HQ.out)
          have hs3 : wo.heap.size ≤ w3.heap.size := Nat.le_trans HSZ.out hb.size
          have HB3 := Aside0.mk (show Below base w w3 from below_then HBq.out (Nat.le_trans hbase HBq.out.size) hb)
          have HLK3 := Aside0.mk (show (Value.slice Ak (na + k) ck).ownBlock = (Value.slice Aa na ca).ownBlock ∨ ((∃ b, (Value.slice Ak (na + k) ck).ownBlock = some b ∧ wo.heap.size ≤ b) ∧ RD w3 Aa na ⟨#[35, 49]⟩) from by
            rcases HLK.out with h | ⟨h, h2⟩
            · exact .inl h
            · exact .inr ⟨h, h2.move (fun g hg => hb.block g (Nat.lt_of_lt_of_le (HLT.out g hg) HSZ.out))⟩)
          have HFR3 := Aside0.mk (show ∀ b, b < wo.heap.size → some b ≠ (Value.slice Aa na ca).ownBlock → w3.heap[b]? = wo.heap[b]? from fun b hb2 hb3 => (hb.block b (Nat.lt_of_lt_of_le hb2 HSZ.out)).trans (HFR.out b hb2 hb3))
          have HS3 := Aside0.mk hs3
          have hbs3 : base ≤ w3.heap.size := Nat.le_trans hbase HB3.out.size
          clear hb HXq HLK HFR HSZ HQ HBq hbx2 hs3 hd0 hd1
          go_wp2_with (first | ((with_reducible refine gate_builtin (b := .append) (xs := #[.tmp 28, .tmp 32]) rfl ?_); at_builtin; refine Ap.append_cells (w0 := w) base rfl (.tmp 28) (.tmp 32) 22 52 (.agg #[(.int .u8 0), (.string ⟨#[]⟩), (.int .i64 0)]) 3 32 rfl Tryz.underlying22 info52 rfl (by decide) (by decide) _ (na + k) (marks ⟨#[35, 49]⟩ (na + k)) [.int .u8 0, .string ⟨#[35, 49]⟩, .int .i64 0] rfl rfl rfl (by simp [Value.oneCell']) HX3.out hbs3 (by omega) ?_; intro v1 w4 hown hg hat))
          go_roundw
          case rel =>
            obtain ⟨A1, c1, rfl⟩ := own_slice hown
            have hown' : w4.ownsRow base 52 3 (.slice A1 (na + (k + 1)) c1) (na + (k + 1)) (marks ⟨#[35, 49]⟩ (na + (k + 1))) := by
              rw [show na + (k + 1) = na + k + 1 by omega, marks_succ]; exact hown
            refine ⟨k + 1, by omega, rfl, A1, c1, rfl, ⟨hown'⟩, ⟨?_⟩, ⟨fun b hb2 hb3 => ?_⟩, ⟨Nat.le_trans HS3.out hg.size⟩, ⟨?_⟩, ⟨HB3.out.grown hg hbs3 (own_base HX3.out)⟩⟩
            · rcases hat with hat | ⟨⟨b, hb1, hb2⟩, hold⟩
              · rcases HLK3.out with h | ⟨⟨b, hb1, hb2⟩, hrd⟩
                · exact .inl ((show (Value.slice A1 (na + (k + 1)) c1).ownBlock = (Value.slice Ak (na + k) ck).ownBlock from hat).trans h)
                · refine .inr ⟨⟨b, (show (Value.slice A1 (na + (k + 1)) c1).ownBlock = (Value.slice Ak (na + k) ck).ownBlock from hat).trans hb1, hb2⟩, hrd.move (fun g hg2 => hg.block g (Nat.lt_of_lt_of_le (HLT.out g hg2) HS3.out) (fun e => ?_))⟩
                  have e : some g = (Value.slice Ak (na + k) ck).ownBlock := e
                  rw [hb1] at e
                  have := HLT.out g hg2
                  injection e with e
                  omega
              · refine .inr ⟨⟨b, hb1, Nat.le_trans HS3.out hb2⟩, ?_⟩
                have hrd : RD w3 Aa na ⟨#[35, 49]⟩ := by
                  rcases HLK3.out with h | ⟨_, hrd⟩
                  · exact RD_of_own HX3.out hAa h
                  · exact hrd
                exact hrd.move (fun g hg2 => hold g (Nat.lt_of_lt_of_le (HLT.out g hg2) HS3.out))
            · refine (hg.block b (Nat.lt_of_lt_of_le hb2 HS3.out) (fun e => ?_)).trans (HFR3.out b hb2 hb3)
              rcases HLK3.out with h | ⟨⟨b', hb1, hb4⟩, _⟩
              · exact hb3 ((show some b = (Value.slice Ak (na + k) ck).ownBlock from e).trans h)
              · have e : some b = (Value.slice Ak (na + k) ck).ownBlock := e
                rw [hb1] at e
                injection e with e
                omega
            · exact (hg.block _ (Array.getElem?_eq_some_iff.1 HQ3.out).1 (own_ne HX3.out HQ3.out (by decide))).trans HQ3.out
          case measure => simp only [intOf]; omega
        · have hk40 : k = 40 := by omega
          subst hk40
          have hcur := HT.out.row
          have htne : some tb ≠ (Value.slice Aa na ca).ownBlock := by
            obtain ⟨cur, hc, _⟩ := HT.out.row
            exact own_ne HX.out hc (by decide)
          have hkne : some kb ≠ (Value.slice Aa na ca).ownBlock := own_ne HX.out HT.out.book (by decide)
          have HTq := Aside0.mk (HT.out.move (w' := wr) (HFR.out kb HT.out.book.lt hkne) (HFR.out tb HT.out.tlt htne))
          have hcq := HTq.out.cell
          obtain ⟨hs1, hs2⟩ := HTq.out.at_ 1 _ rfl
          clear hlt hk hcur htne hkne q0 q1 q2 hcT
          go_wp2
          have hrd : RD wr Aa na ⟨#[35, 49]⟩ := by
            rcases HLK.out with h | ⟨_, hrd⟩
            · exact RD_of_own HXq.out hAa h
            · exact hrd
          have hTset := HTq.out.put1 (.slice Ak (na + 40) ck)
          obtain ⟨curq, hcurq, _⟩ := HTq.out.row
          have hownS := own_setCell HXq.out (p := ⟨tb, 1, none⟩) (own_ne HXq.out hcurq (by decide)) (.slice Ak (na + 40) ck)
          have hBset := HBq.out.setCell (p := ⟨tb, 1, none⟩) htb (.slice Ak (na + 40) ck)
          have far : ∀ b, b ≠ tb → (wr.setCell ⟨tb, 1, none⟩ (.slice Ak (na + 40) ck)).heap[b]? = wr.heap[b]? := fun b hb2 => Below.heap_setCell wr ⟨tb, 1, none⟩ _ b hb2
          have htX : ∀ g, Aa = some ⟨g, 0, none⟩ → g ≠ tb := fun g hg e => by
            obtain ⟨cur, hc, _⟩ := HT.out.row
            exact own_ne HX.out hc (by decide) (by rw [hg, ← e]; rfl)
          have hrdS := hrd.move (w' := wr.setCell ⟨tb, 1, none⟩ (.slice Ak (na + 40) ck)) (fun g hg => far g (htX g hg))
          have hY : wo.ownsRow base 52 3 (.slice Ab nb cb) nb (marks ⟨#[35, 50]⟩ nb) := HB.out (by omega)
          have hYne : ∀ b, (Value.slice Ab nb cb).ownBlock = some b → some b ≠ (Value.slice Aa na ca).ownBlock := fun b hb2 e => by
            rcases hne with h | h
            · rw [h] at e; cases e
            · exact h (by rw [← e, hb2])
          have hYr := own_move hY (w1 := wr) (fun b hb2 => HFR.out b (own_lt hY b hb2) (hYne b hb2))
          have hYs := own_setCell hYr (p := ⟨tb, 1, none⟩) (own_ne hYr hcurq (by decide)) (.slice Ak (na + 40) ck)
          refine ⟨⟨1, by omega, rfl, Ak, na + 40, ck, Bs, lt, ds, ⟨hTset⟩, ⟨fun h => by omega⟩, ⟨fun _ => hYs⟩, ⟨fun _ => ⟨rfl, hownS, hrdS, fun g hg e => ?_⟩⟩, ⟨fun h => by omega⟩, ⟨hBset⟩⟩, by simp [intOf]⟩
          rcases HLK.out with h | ⟨⟨b, hb1, hb2⟩, _⟩
          · exact hYne g hg (by rw [← h]; exact e.symm)
          · rw [hb1] at e
            injection e with e
            have := own_lt hY g hg
            omega
    | 1, _ =>
      have q0 := (HT.out.at_ 3 _ rfl).1
      have q1 := (HT.out.at_ 4 _ rfl).1
      have q2 := (HT.out.at_ 5 _ rfl).1
      have hX : wo.ownsRow base 52 3 (.slice Ab nb cb) nb (marks ⟨#[35, 50]⟩ nb) := HB.out (by omega)
      have hAb := own_addr hX
      have HX := Aside0.mk hX
      have hXlt : ∀ g, Ab = some ⟨g, 0, none⟩ → g < wo.heap.size := fun g hg => own_lt HX.out g (by rw [hg]; rfl)
      have HLT := Aside0.mk hXlt
      have hm : assayerlaw01_markToken.f 2 = some (0, ⟨#[35, 50]⟩, 0) := rfl
      clear hX hXlt
      try rw [show ((1 : Nat) : Int) = 1 from rfl]
      go_wp2
      go_loopw [4, 5] (fun v4 v5 wq => ∃ k : Nat, k ≤ 40 ∧ v5 = .int .i64 (k : Int) ∧ ∃ Ak ck, v4 = .slice Ak (nb + k) ck ∧ Aside0 (wq.ownsRow base 52 3 (.slice Ak (nb + k) ck) (nb + k) (marks ⟨#[35, 50]⟩ (nb + k))) ∧
          Aside0 ((Value.slice Ak (nb + k) ck).ownBlock = (Value.slice Ab nb cb).ownBlock ∨ ((∃ b, (Value.slice Ak (nb + k) ck).ownBlock = some b ∧ wo.heap.size ≤ b) ∧ RD wq Ab nb ⟨#[35, 50]⟩)) ∧
          Aside0 (∀ b, b < wo.heap.size → some b ≠ (Value.slice Ab nb cb).ownBlock → wq.heap[b]? = wo.heap[b]?) ∧ Aside0 (wo.heap.size ≤ wq.heap.size) ∧ Aside0 (wq.heap[wo.heap.size]? = some (.cells #[.slice Ab nb cb, .slice Bs lt ds, .int .i64 2] 63 (0, 0))) ∧ Aside0 (Below base w wq))
        (fun _ v5 _ => 40 - (intOf v5).toNat)
      case atStart =>
        exact ⟨0, by omega, rfl, _, _, rfl, ⟨own_alloc HX.out _⟩, ⟨.inl rfl⟩, ⟨fun b hb _ => (MapKept.heap_alloc wo _).2 b hb⟩, ⟨by simp⟩, ⟨(MapKept.heap_alloc wo _).1⟩, ⟨HBe.out.alloc (Nat.le_trans hbase HBe.out.size) _⟩⟩
      case round =>
        obtain ⟨k, hk, rfl, Ak, ck, rfl, HXq, HLK, HFR, HSZ, HQ, HBq⟩ := hrel
        have hbx2 : wr.cell? ⟨wo.heap.size, 2, none⟩ = some (.int .i64 2) := by simp [World.cell?, HQ.out]
        by_cases hlt : k < 40
        · have hd0 : decide ((k : Int) < 40) = true := decide_eq_true (by omega)
          have hd1 : decide (k < 40) = true := decide_eq_true hlt
          have hw64 : wrap64 ((k : Int) + 1) = (k : Int) + 1 := by unfold wrap64; omega
          clear q0 q1 q2
          go_wp2_with fail
          with_reducible refine (assayerlaw01_markToken.calls 2 0 ⟨#[35, 50]⟩ 0 _ hm).mono ?_
          rintro e w3 ⟨rfl, hb⟩
          have HX3 := Aside0.mk (own_move HXq.out (fun b hb2 => hb.block b (own_lt HXq.out b hb2)))
          have HQ3 := Aside0.mk ((hb.block _ (Array.getElem?_eq_some_iff.1 HQ.out).1).trans HQ.out)
          have hs3 : wo.heap.size ≤ w3.heap.size := Nat.le_trans HSZ.out hb.size
          have HB3 := Aside0.mk (show Below base w w3 from below_then HBq.out (Nat.le_trans hbase HBq.out.size) hb)
          have HLK3 := Aside0.mk (show (Value.slice Ak (nb + k) ck).ownBlock = (Value.slice Ab nb cb).ownBlock ∨ ((∃ b, (Value.slice Ak (nb + k) ck).ownBlock = some b ∧ wo.heap.size ≤ b) ∧ RD w3 Ab nb ⟨#[35, 50]⟩) from by
            rcases HLK.out with h | ⟨h, h2⟩
            · exact .inl h
            · exact .inr ⟨h, h2.move (fun g hg => hb.block g (Nat.lt_of_lt_of_le (HLT.out g hg) HSZ.out))⟩)
          have HFR3 := Aside0.mk (show ∀ b, b < wo.heap.size → some b ≠ (Value.slice Ab nb cb).ownBlock → w3.heap[b]? = wo.heap[b]? from fun b hb2 hb3 => (hb.block b (Nat.lt_of_lt_of_le hb2 HSZ.out)).trans (HFR.out b hb2 hb3))
          have HS3 := Aside0.mk hs3
          have hbs3 : base ≤ w3.heap.size := Nat.le_trans hbase HB3.out.size
          clear hb HXq HLK HFR HSZ HQ HBq hbx2 hs3 hd0 hd1
          go_wp2_with (first | ((with_reducible refine gate_builtin (b := .append) (xs := #[.tmp 28, .tmp 32]) rfl ?_); at_builtin; refine Ap.append_cells (w0 := w) base rfl (.tmp 28) (.tmp 32) 22 52 (.agg #[(.int .u8 0), (.string ⟨#[]⟩), (.int .i64 0)]) 3 32 rfl Tryz.underlying22 info52 rfl (by decide) (by decide) _ (nb + k) (marks ⟨#[35, 50]⟩ (nb + k)) [.int .u8 0, .string ⟨#[35, 50]⟩, .int .i64 0] rfl rfl rfl (by simp [Value.oneCell']) HX3.out hbs3 (by omega) ?_; intro v1 w4 hown hg hat))
          go_roundw
          case rel =>
            obtain ⟨A1, c1, rfl⟩ := own_slice hown
            have hown' : w4.ownsRow base 52 3 (.slice A1 (nb + (k + 1)) c1) (nb + (k + 1)) (marks ⟨#[35, 50]⟩ (nb + (k + 1))) := by
              rw [show nb + (k + 1) = nb + k + 1 by omega, marks_succ]; exact hown
            refine ⟨k + 1, by omega, rfl, A1, c1, rfl, ⟨hown'⟩, ⟨?_⟩, ⟨fun b hb2 hb3 => ?_⟩, ⟨Nat.le_trans HS3.out hg.size⟩, ⟨?_⟩, ⟨HB3.out.grown hg hbs3 (own_base HX3.out)⟩⟩
            · rcases hat with hat | ⟨⟨b, hb1, hb2⟩, hold⟩
              · rcases HLK3.out with h | ⟨⟨b, hb1, hb2⟩, hrd⟩
                · exact .inl ((show (Value.slice A1 (nb + (k + 1)) c1).ownBlock = (Value.slice Ak (nb + k) ck).ownBlock from hat).trans h)
                · refine .inr ⟨⟨b, (show (Value.slice A1 (nb + (k + 1)) c1).ownBlock = (Value.slice Ak (nb + k) ck).ownBlock from hat).trans hb1, hb2⟩, hrd.move (fun g hg2 => hg.block g (Nat.lt_of_lt_of_le (HLT.out g hg2) HS3.out) (fun e => ?_))⟩
                  have e : some g = (Value.slice Ak (nb + k) ck).ownBlock := e
                  rw [hb1] at e
                  have := HLT.out g hg2
                  injection e with e
                  omega
              · refine .inr ⟨⟨b, hb1, Nat.le_trans HS3.out hb2⟩, ?_⟩
                have hrd : RD w3 Ab nb ⟨#[35, 50]⟩ := by
                  rcases HLK3.out with h | ⟨_, hrd⟩
                  · exact RD_of_own HX3.out hAb h
                  · exact hrd
                exact hrd.move (fun g hg2 => hold g (Nat.lt_of_lt_of_le (HLT.out g hg2) HS3.out))
            · refine (hg.block b (Nat.lt_of_lt_of_le hb2 HS3.out) (fun e => ?_)).trans (HFR3.out b hb2 hb3)
              rcases HLK3.out with h | ⟨⟨b', hb1, hb4⟩, _⟩
              · exact hb3 ((show some b = (Value.slice Ak (nb + k) ck).ownBlock from e).trans h)
              · have e : some b = (Value.slice Ak (nb + k) ck).ownBlock := e
                rw [hb1] at e
                injection e with e
                omega
            · exact (hg.block _ (Array.getElem?_eq_some_iff.1 HQ3.out).1 (own_ne HX3.out HQ3.out (by decide))).trans HQ3.out
          case measure => simp only [intOf]; omega
        · have hk40 : k = 40 := by omega
          subst hk40
          have hcur := HT.out.row
          have htne : some tb ≠ (Value.slice Ab nb cb).ownBlock := by
            obtain ⟨cur, hc, _⟩ := HT.out.row
            exact own_ne HX.out hc (by decide)
          have hkne : some kb ≠ (Value.slice Ab nb cb).ownBlock := own_ne HX.out HT.out.book (by decide)
          have HTq := Aside0.mk (HT.out.move (w' := wr) (HFR.out kb HT.out.book.lt hkne) (HFR.out tb HT.out.tlt htne))
          have hcq := HTq.out.cell
          obtain ⟨hs1, hs2⟩ := HTq.out.at_ 4 _ rfl
          clear hlt hk hcur htne hkne q0 q1 q2 hcT
          go_wp2
          have hrd : RD wr Ab nb ⟨#[35, 50]⟩ := by
            rcases HLK.out with h | ⟨_, hrd⟩
            · exact RD_of_own HXq.out hAb h
            · exact hrd
          have hTset := HTq.out.put4 (.slice Ak (nb + 40) ck)
          obtain ⟨curq, hcurq, _⟩ := HTq.out.row
          have hownS := own_setCell HXq.out (p := ⟨tb, 4, none⟩) (own_ne HXq.out hcurq (by decide)) (.slice Ak (nb + 40) ck)
          have hBset := HBq.out.setCell (p := ⟨tb, 4, none⟩) htb (.slice Ak (nb + 40) ck)
          have far : ∀ b, b ≠ tb → (wr.setCell ⟨tb, 4, none⟩ (.slice Ak (nb + 40) ck)).heap[b]? = wr.heap[b]? := fun b hb2 => Below.heap_setCell wr ⟨tb, 4, none⟩ _ b hb2
          have htX : ∀ g, Ab = some ⟨g, 0, none⟩ → g ≠ tb := fun g hg e => by
            obtain ⟨cur, hc, _⟩ := HT.out.row
            exact own_ne HX.out hc (by decide) (by rw [hg, ← e]; rfl)
          have hrdS := hrd.move (w' := wr.setCell ⟨tb, 4, none⟩ (.slice Ak (nb + 40) ck)) (fun g hg => far g (htX g hg))
          obtain ⟨rfl, hY, hYrd, hYne⟩ := H1.out (by omega)
          have hYb : ∀ b, (Value.slice As (na + 40) cs).ownBlock = some b → some b ≠ (Value.slice Ab nb cb).ownBlock := fun b hb2 e => hYne b e.symm hb2
          have hYr := own_move hY (w1 := wr) (fun b hb2 => HFR.out b (own_lt hY b hb2) (hYb b hb2))
          have hYs := own_setCell hYr (p := ⟨tb, 4, none⟩) (own_ne hYr hcurq (by decide)) (.slice Ak (nb + 40) ck)
          have hrdY : RD (wr.setCell ⟨tb, 4, none⟩ (.slice Ak (nb + 40) ck)) Aa na ⟨#[35, 49]⟩ := by
            intro j u hu
            obtain ⟨g, hg, hc⟩ := hYrd j u hu
            have hglt : g < wo.heap.size := by
              rcases Nat.lt_or_ge g wo.heap.size with h1 | h1
              · exact h1
              · simp [World.cell?, Array.getElem?_eq_none h1] at hc
            have hgne : some g ≠ (Value.slice Ab nb cb).ownBlock := fun e => by
              rcases hne with h | h
              · rw [hg] at h; cases h
              · exact h (by rw [hg]; exact e)
            have hgt : g ≠ tb := HTA.out g hg
            exact ⟨g, hg, ((World.cell?_of_block (a := ⟨g, j, none⟩) (far g hgt)).trans (World.cell?_of_block (a := ⟨g, j, none⟩) (HFR.out g hglt hgne))).trans hc⟩
          exact ⟨⟨2, by omega, rfl, As, na + 40, cs, Ak, nb + 40, ck, ⟨hTset⟩, ⟨fun h => by omega⟩, ⟨fun h => by omega⟩, ⟨fun _ => ⟨rfl, hYs, hrdY, hYne⟩⟩, ⟨fun _ => ⟨rfl, hownS, hrdS⟩⟩, ⟨hBset⟩⟩, by simp [intOf]⟩
    | 2, _ =>
      obtain ⟨rfl, hA2, hA3, _⟩ := H1.out (by omega)
      obtain ⟨rfl, hB2, hB3⟩ := H2.out (by omega)
      have HA2 := Aside0.mk hA2
      have HA3 := Aside0.mk hA3
      have HB2 := Aside0.mk hB2
      have HB3 := Aside0.mk hB3
      clear hA2 hA3 hB2 hB3
      go_wp2
      go_end0
      exact ⟨rfl, As, cs, Bs, ds, HT.out, HA2.out, HB2.out, HA3.out, HB3.out, HBe.out⟩

end Go.Proofs.YtgebfcdpbeaknaaGreatDoor.X
end

/-! #### X73 -/
section

namespace Go.Proofs.YtgebfcdpbeaknaaGreatDoor.X
open Go.RowKit Go.Proofs.YtgebfcdpbeaknaaGreatDoorW.PrintWords Go.Proofs.YtgebfcdpbeaknaaGreatDoorW.PrintLast Go.Proofs.YtgebfcdpbeaknaaGreatDoorW.PrintMore
attribute [local go_sem] max2_int min2_int max_two min_two max_three min_three max_four min_four   -- for this text's walks alone
set_option linter.unusedVariables false
set_option linter.unusedSimpArgs false

/-! ### assayerlaw01_isToken: function 79 -/
def assayerlaw01_isToken.f (a0_0 : Int) (a0_1 : ByteArray) (a0_2 : Int) (a1 : Int) : Option (Bool) := (assayerlaw01_word.f a1).bind fun t314 => (some (a0_1.toList == t314.toList))
set_option maxHeartbeats 8000000 in
set_option maxRecDepth 100000 in
theorem assayerlaw01_isToken.calls (a0_0 : Int) (a0_1 : ByteArray) (a0_2 : Int) (a1 : Int) (r : Bool) (w : World) (h : assayerlaw01_isToken.f a0_0 a0_1 a0_2 a1 = some r) :
    Calls Tryz.prog 79 #[.agg #[.int .u8 a0_0, .string a0_1, .int .i64 a0_2], .int .i64 a1] w fun e w' => e = .returned (.bool r) ∧ Below w.heap.size w w' := by
  have hu52 := Tryz.underlying52
  have HB := Aside0.mk (Below.refl w.heap.size w)
  have H : ((assayerlaw01_word.f a1).bind fun t314 => (some (a0_1.toList == t314.toList))) = some r := h
  clear h
  replace H := Option.bind_eq_some_iff.mp H
  obtain ⟨t314, A30, H⟩ := H
  replace H : (some (a0_1.toList == t314.toList)) = some r := H
  have A3 := Aside0.mk A30
  clear A30
  obtain rfl := Option.some.inj H
  go_enter Tryz.func79, Tryz.ntmps79
  go_wp2_with (first | ((with_reducible refine gate_dst (N := 2) rfl ?_); refine box_event ?hg (N := 2) ?hd (cs := #[.int .u8 a0_0, .string a0_1, .int .i64 a0_2]) (t := 52) ?hr ?_; (case hd => rfl); (case hg => rfl); (case hr => first | (go_simp; done) | (go_simp; rfl)); intro gb313 hg w4 hbox hb; have n0_ := Aside0.mk (below_step (by repeat (first | (with_reducible first | exact HB.out | apply below_alloc | apply pw_below_drewN | apply below_drew1) | exact HB.out)) hb); have n1_ := Aside0.mk (hbox); have n2_ := Aside0.mk ((by rw [hg]; exact (below_size (by repeat (first | (with_reducible first | exact HB.out | apply below_alloc | apply pw_below_drewN | apply below_drew1) | exact HB.out))) : w.heap.size ≤ gb313)); have n3_ := Aside0.mk ((by rw [hg]; exact (below_size (by repeat (first | (with_reducible first | exact HB.out | apply below_alloc | apply pw_below_drewN | apply below_drew1) | exact HB.out))) : w.heap.size ≤ gb313)); clear HB; have HB := n0_; have BK313 := n1_; have GW313 := n2_; have GE313 := n3_; clear n0_ n1_ n2_ n3_; clear hb hbox hg; have hcz5_0 : w4.cell? ⟨gb313, 0, none⟩ = some (.int .u8 a0_0) := (blk_cell BK313.out 0).trans rfl; have hcz5_1 : w4.cell? ⟨gb313, 1, none⟩ = some (.string a0_1) := (blk_cell BK313.out 1).trans rfl; have hcz5_2 : w4.cell? ⟨gb313, 2, none⟩ = some (.int .i64 a0_2) := (blk_cell BK313.out 2).trans rfl; have hfz5_0 := blk_frozen BK313.out 0; have hfz5_1 := blk_frozen BK313.out 1; have hfz5_2 := blk_frozen BK313.out 2) | (go_at_call 90; (with_reducible refine (assayerlaw01_word.calls a1 t314 _ A3.out).mono ?_); rintro e w' ⟨rfl, ⟨nd, rfl⟩⟩; (try first | exact ⟨rfl, _, World.drewN_drewN _ _ _⟩ | exact ⟨rfl, _, Eq.trans (World.drewN_drewN _ _ _) (congrArg (World.drewN _) (Nat.add_assoc _ _ _))⟩)))
  repeat (go_quiet (first | ((with_reducible refine gate_dst (N := 2) rfl ?_); refine box_event ?hg (N := 2) ?hd (cs := #[.int .u8 a0_0, .string a0_1, .int .i64 a0_2]) (t := 52) ?hr ?_; (case hd => rfl); (case hg => rfl); (case hr => first | (go_simp; done) | (go_simp; rfl)); intro gb313 hg w4 hbox hb; have n0_ := Aside0.mk (below_step (by repeat (first | (with_reducible first | exact HB.out | apply below_alloc | apply pw_below_drewN | apply below_drew1) | exact HB.out)) hb); have n1_ := Aside0.mk (hbox); have n2_ := Aside0.mk ((by rw [hg]; exact (below_size (by repeat (first | (with_reducible first | exact HB.out | apply below_alloc | apply pw_below_drewN | apply below_drew1) | exact HB.out))) : w.heap.size ≤ gb313)); have n3_ := Aside0.mk ((by rw [hg]; exact (below_size (by repeat (first | (with_reducible first | exact HB.out | apply below_alloc | apply pw_below_drewN | apply below_drew1) | exact HB.out))) : w.heap.size ≤ gb313)); clear HB; have HB := n0_; have BK313 := n1_; have GW313 := n2_; have GE313 := n3_; clear n0_ n1_ n2_ n3_; clear hb hbox hg; have hcz5_0 : w4.cell? ⟨gb313, 0, none⟩ = some (.int .u8 a0_0) := (blk_cell BK313.out 0).trans rfl; have hcz5_1 : w4.cell? ⟨gb313, 1, none⟩ = some (.string a0_1) := (blk_cell BK313.out 1).trans rfl; have hcz5_2 : w4.cell? ⟨gb313, 2, none⟩ = some (.int .i64 a0_2) := (blk_cell BK313.out 2).trans rfl; have hfz5_0 := blk_frozen BK313.out 0; have hfz5_1 := blk_frozen BK313.out 1; have hfz5_2 := blk_frozen BK313.out 2) | (go_at_call 90; (with_reducible refine (assayerlaw01_word.calls a1 t314 _ A3.out).mono ?_); rintro e w' ⟨rfl, ⟨nd, rfl⟩⟩; (try first | exact ⟨rfl, _, World.drewN_drewN _ _ _⟩ | exact ⟨rfl, _, Eq.trans (World.drewN_drewN _ _ _) (congrArg (World.drewN _) (Nat.add_assoc _ _ _))⟩))); try go_wp2_with (first | ((with_reducible refine gate_dst (N := 2) rfl ?_); refine box_event ?hg (N := 2) ?hd (cs := #[.int .u8 a0_0, .string a0_1, .int .i64 a0_2]) (t := 52) ?hr ?_; (case hd => rfl); (case hg => rfl); (case hr => first | (go_simp; done) | (go_simp; rfl)); intro gb313 hg w4 hbox hb; have n0_ := Aside0.mk (below_step (by repeat (first | (with_reducible first | exact HB.out | apply below_alloc | apply pw_below_drewN | apply below_drew1) | exact HB.out)) hb); have n1_ := Aside0.mk (hbox); have n2_ := Aside0.mk ((by rw [hg]; exact (below_size (by repeat (first | (with_reducible first | exact HB.out | apply below_alloc | apply pw_below_drewN | apply below_drew1) | exact HB.out))) : w.heap.size ≤ gb313)); have n3_ := Aside0.mk ((by rw [hg]; exact (below_size (by repeat (first | (with_reducible first | exact HB.out | apply below_alloc | apply pw_below_drewN | apply below_drew1) | exact HB.out))) : w.heap.size ≤ gb313)); clear HB; have HB := n0_; have BK313 := n1_; have GW313 := n2_; have GE313 := n3_; clear n0_ n1_ n2_ n3_; clear hb hbox hg; have hcz5_0 : w4.cell? ⟨gb313, 0, none⟩ = some (.int .u8 a0_0) := (blk_cell BK313.out 0).trans rfl; have hcz5_1 : w4.cell? ⟨gb313, 1, none⟩ = some (.string a0_1) := (blk_cell BK313.out 1).trans rfl; have hcz5_2 : w4.cell? ⟨gb313, 2, none⟩ = some (.int .i64 a0_2) := (blk_cell BK313.out 2).trans rfl; have hfz5_0 := blk_frozen BK313.out 0; have hfz5_1 := blk_frozen BK313.out 1; have hfz5_2 := blk_frozen BK313.out 2) | (go_at_call 90; (with_reducible refine (assayerlaw01_word.calls a1 t314 _ A3.out).mono ?_); rintro e w' ⟨rfl, ⟨nd, rfl⟩⟩; (try first | exact ⟨rfl, _, World.drewN_drewN _ _ _⟩ | exact ⟨rfl, _, Eq.trans (World.drewN_drewN _ _ _) (congrArg (World.drewN _) (Nat.add_assoc _ _ _))⟩))))
  go_ret
  exact ⟨by first | rfl | (simp [errW_none, errW_some] <;> rfl) | (simp [*, errW_none, errW_some] <;> rfl), by repeat (first | (with_reducible first | exact HB.out | apply below_alloc | apply pw_below_drewN | apply below_drew1 | refine below_set ?_ GE313.out) | exact HB.out)⟩

end Go.Proofs.YtgebfcdpbeaknaaGreatDoor.X
end
