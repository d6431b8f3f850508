/-
  What a tick does to the ledger that lies; what 'Find' finds in it: ranges over its map, in whatever order.
-/
import Derived.Test.YtgebfcdpbeaknaaLedOps
import Derived.Maps.Range
set_option linter.unusedVariables false
set_option linter.unusedSimpArgs false
namespace Go.Proofs.Ytgebfcdpbeaknaa.Led
open Go Go.RowKit Go.Proofs.Ytgebfcdpbeaknaa.X Go.Proofs.YtgebfcdpbeaknaaW.PrintWords Go.Proofs.YtgebfcdpbeaknaaW.PrintLast Go.MapRaw Go.MapKept
open Go.ChangeMaps (setBlock)
attribute [local go_sem] Oper.semAt_some

variable {base : Nat} {w : World} {pb mb : Nat} {ts : List Ten} {ls : List Int} {bs : List Nat}
theorem LedAt.move {w' : World} (h : LedAt base w pb mb ts ls bs) (hm : ∀ k, k < w.heap.size → (k = pb ∨ k = mb ∨ k ∈ bs) → w'.heap[k]? = w.heap[k]?) : LedAt base w' pb mb ts ls bs := by
  have lt : ∀ {k : Nat} {o : Obj}, w.heap[k]? = some o → k < w.heap.size := fun h => (Array.getElem?_eq_some_iff.1 h).1
  refine ⟨⟨h.accs.len, h.accs.lenl, h.accs.nodup, h.accs.low, fun i h0 h1 h2 => ?_⟩, h.lowp, h.lowm, (hm _ (lt h.ptr) (.inl rfl)).trans h.ptr, (hm _ (lt h.map) (.inr (.inl rfl))).trans h.map⟩
  have ha := h.accs.at_ i h0 h1 h2
  exact (hm _ (lt ha) (.inr (.inr (List.getElem_mem h1)))).trans ha
theorem LedAt.lt (h : LedAt base w pb mb ts ls bs) : pb < w.heap.size ∧ mb < w.heap.size ∧ ∀ k ∈ bs, k < w.heap.size := by
  have lt : ∀ {k : Nat} {o : Obj}, w.heap[k]? = some o → k < w.heap.size := fun h => (Array.getElem?_eq_some_iff.1 h).1
  refine ⟨lt h.ptr, lt h.map, fun k hk => ?_⟩
  obtain ⟨j, hj, rfl⟩ := List.getElem_of_mem hk
  exact lt (h.accs.at_ j (by have := h.accs.len; omega) hj (by have := h.accs.len; have := h.accs.lenl; omega))
/-- a range over the accounts is under way; its iterator lies at r -/
structure Under (w : World) (r mb n : Nat) (seen : Array Nat) (c0 : Nat) : Prop where
  iter : w.heap[r]? = some (.mapIter (some mb) n seen c0)
  old : n ≤ c0
theorem allE_old (bs : List Nat) : ∀ x ∈ (allE bs 0).toArray.toList, x.born < bs.length := fun x hx => by
  obtain ⟨j, hj, rfl⟩ := allE_mem bs 0 x (by simpa using hx)
  simpa using hj
theorem left_eq {r : Nat} {seen : Array Nat} {c0 n : Nat} (h : LedAt base w pb mb ts ls bs) (hu : Under w r mb n seen c0) : w.rangeLeft mb r = (leftOf (allE bs 0).toArray seen).size := by
  simp [World.rangeLeft, h.map, hu.iter]
/-- the range's step: nothing is left, or one of the accounts that is left comes -/
theorem step_all {r : Nat} {seen : Array Nat} {c0 : Nat} (h : LedAt base w pb mb ts ls bs) (hu : Under w r mb bs.length seen c0) (hr : r ≠ pb ∧ r ≠ mb ∧ r ∉ bs) (ty : TypeId) :
    ((∀ i, i < bs.length → seen.contains i = true) ∧ (Instr.next (.pointer (some ⟨r, 0, none⟩)) false ty).run Try.prog w = .ok (.tuple #[.bool false]) w) ∨
    ∃ j, ∃ hj : j < bs.length, ∃ W, (Instr.next (.pointer (some ⟨r, 0, none⟩)) false ty).run Try.prog w = .ok (.tuple #[.bool true, .int .i64 (j : Int), .pointer (some ⟨bs[j], 0, none⟩)]) W ∧
      (Instr.entry (.pointer (some ⟨r, 0, none⟩))).run Try.prog W = .ok (.tuple #[.int .i64 (j : Int), .pointer (some ⟨bs[j], 0, none⟩)]) W ∧
      LedAt base W pb mb ts ls bs ∧ Under W r mb bs.length (seen.push j) bs.length ∧ W.rangeLeft mb r < w.rangeLeft mb r ∧ (∀ k, k ≠ r → W.heap[k]? = w.heap[k]?) ∧ W.heap.size = w.heap.size ∧ W.os = w.os ∧ W.tape = w.tape ∧ W.output = w.output := by
  rcases run_next_at (P := Try.prog) w ty r mb bs.length c0 seen (allE bs 0).toArray bs.length hu.iter h.map (allE_old bs) hu.old with ⟨h0, hrun⟩ | ⟨e, he, w1, hal, hrun⟩
  · refine .inl ⟨fun i hi => ?_, hrun⟩
    have := all_seen (allE bs 0).toArray seen h0 _ (by simpa using allE_get bs 0 i hi)
    simpa using this
  · obtain ⟨hem, hes⟩ := mem_left he
    obtain ⟨j, hj, rfl⟩ := allE_mem bs 0 e (by simpa using hem)
    simp only [Nat.zero_add] at hrun he hem hes
    have hheap : w1.heap = w.heap := by rcases hal with rfl | rfl <;> rfl
    have hr1 : w1.heap[r]? = some (.mapIter (some mb) bs.length seen c0) := by rw [hheap]; exact hu.iter
    have hset := heap_set (o' := .mapIter (some mb) bs.length (seen.push j) bs.length) hr1
    have hother : ∀ k, k ≠ r → (setBlock w1 r (.mapIter (some mb) bs.length (seen.push j) bs.length)).heap[k]? = w.heap[k]? := fun k hk => by
      have := hset.2 k hk
      rw [hheap] at this
      simpa [setBlock, hheap] using this
    have hnew : (setBlock w1 r (.mapIter (some mb) bs.length (seen.push j) bs.length)).heap[r]? = some (.mapIter (some mb) bs.length (seen.push j) bs.length) := hset.1
    have hL : LedAt base (setBlock w1 r (.mapIter (some mb) bs.length (seen.push j) bs.length)) pb mb ts ls bs := h.move (fun k _ hk => hother k (by
      rintro rfl
      rcases hk with e | e | e
      · exact hr.1 e
      · exact hr.2.1 e
      · exact hr.2.2 e))
    have hU : Under (setBlock w1 r (.mapIter (some mb) bs.length (seen.push j) bs.length)) r mb bs.length (seen.push j) bs.length := ⟨hnew, Nat.le_refl _⟩
    refine .inr ⟨j, hj, _, hrun, ?_, hL, hU, ?_, hother, ?_, ?_, ?_, ?_⟩
    · exact run_entry_at _ r mb bs.length seen (allE bs 0).toArray bs.length ⟨.int .i64 (j : Int), .pointer (some ⟨bs[j], 0, none⟩), j⟩ hnew hL.map hem (by simpa using allE_nodup bs)
    · rw [left_eq hL hU, left_eq h hu]
      exact left_shrinks _ seen _ he
    · simp [setBlock, hheap]
    · rcases hal with rfl | rfl <;> rfl
    · rcases hal with rfl | rfl <;> rfl
    · rcases hal with rfl | rfl <;> rfl

set_option maxHeartbeats 1000000 in
set_option maxRecDepth 100000 in
theorem Tick.calls (h : LedAt base w pb mb ts ls bs) :
    Calls Try.prog 9 #[.pointer (some ⟨pb, 0, none⟩)] w fun e w' => e = .returned (.int .i64 0) ∧ LedAt base w' pb mb ts (ts.map (·.f2)) bs ∧ Below base w w' := by
  have hp' := fun n => (h.drewN n).ptrc
  have hlt := h.lt
  have hbase : base ≤ w.heap.size := by have := h.lowp; omega
  have HH := Aside0.mk h
  have hrg : ∀ n, (Instr.range 44 (.map (some mb))).run Try.prog (w.drewN n) = .ok (.pointer (some ⟨w.heap.size, 0, none⟩)) ((w.drewN n).alloc (.mapIter (some mb) bs.length #[] bs.length)) := fun n => run_range_map (w.drewN n) _ 3 45 mb _ _ Try.underlying44 (h.drewN n).map
  clear h
  go_enter Try.func9, Try.ntmps9
  go_wp2_with (go_at_call 18; refine (there.calls HH.out).mono ?_; rintro e w1 ⟨rfl, ⟨nd, rfl⟩⟩)
  go_loopw [4] (fun v4 wr => ∃ (seen : Array Nat) (c0 : Nat) (lc : List Int), LedAt base wr pb mb ts lc bs ∧ Under wr w.heap.size mb bs.length seen c0 ∧ Below base w wr ∧ ∀ i (h1 : i < ts.length) (h2 : i < lc.length), seen.contains i = true → lc[i] = ts[i].f2)
    (fun _ wr => wr.rangeLeft mb w.heap.size)
  case atStart =>
    refine ⟨#[], bs.length, ls, HH.out.move (fun k hk _ => (MapKept.heap_alloc (w.drewN nd) _).2 k hk), ⟨(MapKept.heap_alloc (w.drewN nd) _).1, Nat.le_refl _⟩, ?_, fun i _ _ h => by simp at h⟩
    exact (pw_below_drewN (Below.refl base w) nd).alloc hbase _
  case round =>
    obtain ⟨seen, c0, lc, hL, hU, hB, hs⟩ := hrel
    have hrn : w.heap.size ≠ pb ∧ w.heap.size ≠ mb ∧ w.heap.size ∉ bs := ⟨by omega, by omega, fun e => by have := hlt.2.2 _ e; omega⟩
    rcases step_all hL hU hrn 0 with ⟨hall, hnx⟩ | ⟨j, hj, W, hnx, hen, hL2, hU2, hmeas, hoth, hsz, ho1, ho2, ho3⟩
    · have hlc : lc = ts.map (·.f2) := by
        apply List.ext_getElem
        · rw [hL.accs.lenl, List.length_map]
        · intro i h1 h2
          have h3 : i < ts.length := by simpa using h2
          rw [hs i h3 h1 (hall i (by have := hL.accs.len; omega)), List.getElem_map]
      have HL := Aside0.mk hL
      have HB := Aside0.mk hB
      replace hlc := Aside0.mk hlc
      clear hL hB hU hs hall hlt hbase hrn hp' hrg
      go_wp2
      go_ret
      exact ⟨rfl, by rw [← hlc.out]; exact HL.out, HB.out⟩
    · have h0 : j < ts.length := by have := hL.accs.len; omega
      have h2 : j < lc.length := by have := hL.accs.lenl; omega
      have hc2 := (hL2.cells j h0 hj h2).2.2.1
      have hc3 := (hL2.cells j h0 hj h2).2.2.2
      have hfz := hL2.loose j hj 3
      have HL := Aside0.mk hL2
      have hB2 : Below base w W := ⟨ho1.trans hB.os, ho2.trans hB.tape, ho3.trans hB.output, by rw [hsz]; exact hB.size, fun k hk => (hoth k (by omega)).trans (hB.block k hk)⟩
      have HB := Aside0.mk hB2
      have HU := Aside0.mk hU2
      have HM := Aside0.mk hmeas
      have HS := Aside0.mk hs
      have HR := Aside0.mk hrn
      have HLT := Aside0.mk hlt
      clear hL hL2 hB hB2 hU hU2 hmeas hs hoth hsz ho1 ho2 ho3 hrn hp' hrg hlt hbase
      go_wp2
      go_roundw
      case rel =>
        refine ⟨seen.push j, bs.length, lc.set j ts[j].f2, HL.out.store j hj _, ⟨?_, Nat.le_refl _⟩, HB.out.setCell (p := ⟨bs[j], 3, none⟩) (HL.out.accs.low j hj) _, ?_⟩
        · rw [Below.heap_setCell W ⟨bs[j], 3, none⟩ _ w.heap.size (fun e => HR.out.2.2 (by rw [show w.heap.size = bs[j] from e]; exact List.getElem_mem hj))]
          exact HU.out.iter
        · intro i h1 h3 hc
          rw [contains_push] at hc
          rcases Nat.decEq j i with hij | hij
          · rw [List.getElem_set_ne hij]
            refine HS.out i h1 (by simpa using h3) ?_
            simpa [Ne.symm hij] using hc
          · subst hij
            simp
      case measure =>
        have hne : w.heap.size ≠ bs[j] := fun e => HR.out.2.2 (by rw [e]; exact List.getElem_mem hj)
        have hne2 : mb ≠ bs[j] := fun e => by
          have h1 := HL.out.map
          have h2 := HL.out.accs.at_ j h0 hj h2
          rw [e, h2] at h1
          cases h1
        have e1 : (W.setCell ⟨bs[j], 3, none⟩ (.int .i64 ts[j].f2)).rangeLeft mb w.heap.size = W.rangeLeft mb w.heap.size := by
          unfold World.rangeLeft
          rw [Below.heap_setCell W ⟨bs[j], 3, none⟩ _ w.heap.size hne, Below.heap_setCell W ⟨bs[j], 3, none⟩ _ mb hne2]
        rw [e1]
        exact HM.out

theorem set3 (w : World) (b t : Nat) (c0 c1 c2 u0 u1 u2 : Value) (h : w.heap[b]? = some (.cells #[c0, c1, c2] t (0, 0))) : (((w.setCell ⟨b, 0, none⟩ u0).setCell ⟨b, 1, none⟩ u1).setCell ⟨b, 2, none⟩ u2).heap[b]? = some (.cells #[u0, u1, u2] t (0, 0)) := by
  simp [World.setCell, Array.getElem?_modify, h]
theorem set3_far (w : World) (b : Nat) (u0 u1 u2 : Value) (k : Nat) (hk : k ≠ b) : (((w.setCell ⟨b, 0, none⟩ u0).setCell ⟨b, 1, none⟩ u1).setCell ⟨b, 2, none⟩ u2).heap[k]? = w.heap[k]? := by
  rw [Below.heap_setCell _ ⟨b, 2, none⟩ _ k hk, Below.heap_setCell _ ⟨b, 1, none⟩ _ k hk, Below.heap_setCell _ ⟨b, 0, none⟩ _ k hk]
/-- what 'Find' hands back: a tenant of that name and its place, or that there is none -/
def Found (ts : List Ten) (q : ByteArray) (e : Ending) : Prop :=
  (∃ j, ∃ h : j < ts.length, ts[j].f0.toList = q.toList ∧ e = .returned (.tuple #[.agg #[.string ts[j].f0, .string ts[j].f1, .int .i64 ts[j].f2], .int .i64 (j : Int), .int .i64 0])) ∨
  ((∀ j (h : j < ts.length), ts[j].f0.toList ≠ q.toList) ∧ e = .returned (.tuple #[.agg #[.string ByteArray.empty, .string ByteArray.empty, .int .i64 0], .int .i64 0, .int .i64 6]))
set_option maxHeartbeats 1000000 in
set_option maxRecDepth 100000 in
theorem Find.calls (h : LedAt base w pb mb ts ls bs) (q : ByteArray) :
    Calls Try.prog 11 #[.pointer (some ⟨pb, 0, none⟩), .string q] w fun e w' => Found ts q e ∧ LedAt base w' pb mb ts ls bs ∧ Below w.heap.size w w' := by
  have hlt := h.lt
  have hbase : w.heap.size ≤ w.heap.size := Nat.le_refl _
  obtain ⟨W0, hW0⟩ : ∃ W0, W0 = w.alloc (.cells #[.string ByteArray.empty, .string ByteArray.empty, .int .i64 0] 23) := ⟨_, rfl⟩
  have hs0 : W0.heap.size = w.heap.size + 1 := by rw [hW0]; simp
  have h0 : LedAt base W0 pb mb ts ls bs := by rw [hW0]; exact h.move (fun k hk _ => (MapKept.heap_alloc w _).2 k hk)
  have hB0 : Below w.heap.size w W0 := by rw [hW0]; exact (Below.refl w.heap.size w).alloc hbase _
  have hbox : W0.heap[w.heap.size]? = some (.cells #[.string ByteArray.empty, .string ByteArray.empty, .int .i64 0] 23 (0, 0)) := by rw [hW0]; exact (MapKept.heap_alloc w _).1
  have hp' := fun n => (h0.drewN n).ptrc
  have HH := Aside0.mk h0
  have HW := Aside0.mk hW0
  have hrg : ∀ n, (Instr.range 44 (.map (some mb))).run Try.prog (W0.drewN n) = .ok (.pointer (some ⟨w.heap.size + 1, 0, none⟩)) ((W0.drewN n).alloc (.mapIter (some mb) bs.length #[] bs.length)) := fun n => by
    rw [← hs0]
    exact run_range_map (W0.drewN n) _ 3 45 mb _ _ Try.underlying44 (h0.drewN n).map
  clear h h0 hW0
  go_enter Try.func11, Try.ntmps11
  go_wp2_with (go_at_call 18; (try rw [show ByteArray.empty = (⟨#[]⟩ : ByteArray) from rfl] at HW); rw [← HW.out]; refine (there.calls HH.out).mono ?_; rintro e w1 ⟨rfl, ⟨nd, rfl⟩⟩)
  go_loopw [7, 8] (fun v7 v8 wr => ∃ (seen : Array Nat) (c0 : Nat), LedAt base wr pb mb ts ls bs ∧ Under wr (w.heap.size + 1) mb bs.length seen c0 ∧ Below w.heap.size w wr ∧ wr.heap[w.heap.size]? = some (.cells #[.string ByteArray.empty, .string ByteArray.empty, .int .i64 0] 23 (0, 0)) ∧ ∀ i (h1 : i < ts.length), seen.contains i = true → ts[i].f0.toList ≠ q.toList)
    (fun _ _ wr => wr.rangeLeft mb (w.heap.size + 1))
  case atStart =>
    refine ⟨#[], bs.length, HH.out.move (fun k hk _ => (MapKept.heap_alloc (W0.drewN nd) _).2 k hk), ⟨?_, Nat.le_refl _⟩, (pw_below_drewN hB0 nd).alloc (show w.heap.size ≤ W0.heap.size by omega) _, ((MapKept.heap_alloc (W0.drewN nd) _).2 _ (show w.heap.size < W0.heap.size by omega)).trans hbox, fun i _ h => by simp at h⟩
    rw [← hs0]
    exact (MapKept.heap_alloc (W0.drewN nd) _).1
  case round =>
    obtain ⟨seen, c0, hL, hU, hB, hbx, hs⟩ := hrel
    have hrn : w.heap.size + 1 ≠ pb ∧ w.heap.size + 1 ≠ mb ∧ w.heap.size + 1 ∉ bs := ⟨by omega, by omega, fun e => by have := hlt.2.2 _ e; omega⟩
    have hbn : ∀ k, (k = pb ∨ k = mb ∨ k ∈ bs) → k ≠ w.heap.size := by
      rintro k (rfl | rfl | hk)
      · omega
      · omega
      · have := hlt.2.2 _ hk; omega
    rcases step_all hL hU hrn 0 with ⟨hall, hnx⟩ | ⟨j, hj, W, hnx, hen, hL2, hU2, hmeas, hoth, hsz, ho1, ho2, ho3⟩
    · have HL := Aside0.mk hL
      have HB := Aside0.mk hB
      have HS := Aside0.mk hs
      have HA := Aside0.mk hall
      have HBN := Aside0.mk hbn
      have HBX := Aside0.mk hbx
      have HBS := Aside0.mk hbase
      have hb0 : wr.cell? ⟨w.heap.size, 0, none⟩ = some (.string ByteArray.empty) := by simp [World.cell?, hbx]
      have hb1 : wr.cell? ⟨w.heap.size, 1, none⟩ = some (.string ByteArray.empty) := by simp [World.cell?, hbx]
      have hb2 : wr.cell? ⟨w.heap.size, 2, none⟩ = some (.int .i64 0) := by simp [World.cell?, hbx]
      have hf : ∀ k, wr.frozen? ⟨w.heap.size, k, none⟩ = false := fun k => by simp [World.frozen?, hbx]
      clear hL hB hU hs hall hlt hbase hrn hp' hrg hbn hbx hbox
      go_wp2
      have h3 := set3 wr w.heap.size 23 _ _ _ (.string ⟨#[]⟩) (.string ⟨#[]⟩) (.int .i64 0) HBX.out
      refine bodyPost_ret (v := .tuple #[.agg #[.string ⟨#[]⟩, .string ⟨#[]⟩, .int .i64 0], .int .i64 0, .int .i64 6]) ?_ rfl ?_
      · simp [results, Try.f11, go_sem, World.cell?, h3]
      · exact ⟨.inr ⟨fun i h1 => HS.out i h1 (HA.out i (by have := HL.out.accs.len; omega)), rfl⟩, HL.out.move (fun k _ hk => set3_far wr w.heap.size _ _ _ k (HBN.out k hk)), ((HB.out.setCell (p := ⟨w.heap.size, 0, none⟩) HBS.out _).setCell (p := ⟨w.heap.size, 1, none⟩) HBS.out _).setCell (p := ⟨w.heap.size, 2, none⟩) HBS.out _⟩
    · have h0 : j < ts.length := by have := hL.accs.len; omega
      have h2 : j < ls.length := by have := hL.accs.lenl; omega
      have hbW : W.heap[w.heap.size]? = _ := (hoth w.heap.size (by omega)).trans hbx
      obtain ⟨hc0, hc1, hc2, hc3⟩ := hL2.cells j h0 hj h2
      have HL := Aside0.mk hL2
      have hB2 : Below w.heap.size w W := ⟨ho1.trans hB.os, ho2.trans hB.tape, ho3.trans hB.output, by rw [hsz]; exact hB.size, fun k hk => (hoth k (by omega)).trans (hB.block k hk)⟩
      have HB := Aside0.mk hB2
      have HU := Aside0.mk hU2
      have HM := Aside0.mk hmeas
      have HS := Aside0.mk hs
      have HBX := Aside0.mk hbW
      have HBS := Aside0.mk hbase
      have HBN := Aside0.mk hbn
      have hb0 : W.cell? ⟨w.heap.size, 0, none⟩ = some (.string ByteArray.empty) := by simp [World.cell?, hbW]
      have hb1 : W.cell? ⟨w.heap.size, 1, none⟩ = some (.string ByteArray.empty) := by simp [World.cell?, hbW]
      have hb2 : W.cell? ⟨w.heap.size, 2, none⟩ = some (.int .i64 0) := by simp [World.cell?, hbW]
      have hf : ∀ k, W.frozen? ⟨w.heap.size, k, none⟩ = false := fun k => by simp [World.frozen?, hbW]
      clear hL hL2 hB hB2 hU hU2 hmeas hs hoth hsz ho1 ho2 ho3 hrn hp' hrg hlt hbase hbn hbx hbW hbox
      by_cases hq : ts[j].f0.toList = q.toList
      · have hqb : (ts[j].f0.toList == q.toList) = true := beq_iff_eq.mpr hq
        have HQ := Aside0.mk hq
        clear hq
        go_wp2
        have h3 := set3 W w.heap.size 23 _ _ _ (.string ts[j].f0) (.string ts[j].f1) (.int .i64 ts[j].f2) HBX.out
        refine bodyPost_ret (v := .tuple #[.agg #[.string ts[j].f0, .string ts[j].f1, .int .i64 ts[j].f2], .int .i64 (j : Int), .int .i64 0]) ?_ rfl ?_
        · simp [results, Try.f11, go_sem, World.cell?, h3]
        · exact ⟨.inl ⟨j, h0, HQ.out, rfl⟩, HL.out.move (fun k _ hk => set3_far W w.heap.size _ _ _ k (HBN.out k hk)), ((HB.out.setCell (p := ⟨w.heap.size, 0, none⟩) HBS.out _).setCell (p := ⟨w.heap.size, 1, none⟩) HBS.out _).setCell (p := ⟨w.heap.size, 2, none⟩) HBS.out _⟩
      · have hqb : (ts[j].f0.toList == q.toList) = false := beq_eq_false_iff_ne.mpr hq
        have HQ := Aside0.mk hq
        clear hq
        go_wp2
        go_roundw
        case rel =>
          refine ⟨seen.push j, bs.length, HL.out, HU.out, HB.out, HBX.out, fun i h1 hc => ?_⟩
          rw [contains_push] at hc
          rcases Nat.decEq j i with hij | hij
          · refine HS.out i h1 ?_
            simpa [Ne.symm hij] using hc
          · subst hij
            exact HQ.out
        case measure => exact HM.out
end Go.Proofs.Ytgebfcdpbeaknaa.Led
