/-
  Maps as they lie: what a look-up, a store of a new key and a store at a key that is there do, for keys of a plain kind, elements of any kind.
-/
import Derived.MapKept
import Derived.Maps.Own
import Derived.Maps.OwnOps
import Derived.WalkKit
set_option linter.unusedVariables false
set_option linter.unusedSimpArgs false
namespace Go.MapRaw
open Go Go.Instr Go.MapKept
variable {P : Program}

/-- the entry of a key: its place and what it holds -/
noncomputable def findE (k : Value) : List MapEntry → Nat → Option (Nat × Value)
  | [], _ => none
  | e :: l, i => open Classical in if k = e.key then some (i, e.val) else findE k l (i + 1)
theorem findNow_is {d : TypeDesc} {k : Value} (hk : IsKey d k) (l : List MapEntry) : ∀ i, (∀ x ∈ l, IsKey d x.key) → findNow d k l i = some (findE k l i) := by
  induction l with
  | nil => intro i _; rfl
  | cons e l ih =>
    intro i h
    obtain ⟨r, h1, h2⟩ := sameNow_of_keys hk (h e (by simp))
    simp only [findNow, findE, h1]
    by_cases he : k = e.key
    · rw [if_pos he, h2.2 he]
    · rw [if_neg he]
      have : r = false := by
        cases r
        · rfl
        · exact absurd (h2.1 rfl) he
      rw [this]
      exact ih (i + 1) (fun x hx => h x (by simp [hx]))
theorem run_lookup_raw (w : World) (T K E : TypeId) (hT : P.underlying T = some (.map K E)) {d : TypeDesc} (hK : P.underlying K = some d) (z : Value) (hz : (zeroValue E).run P w = .ok z w) (m : Nat) (l : List MapEntry) (c : Nat) (hm : w.heap[m]? = some (.map l.toArray c)) (k : Value) (hk : IsKey d k) (hl : ∀ x ∈ l, IsKey d x.key) (ok : Bool) :
    (Instr.lookup T (.map (some m)) k ok).run P w = .ok (match findE k l 0 with | some (_, v) => if ok then .tuple #[v, .bool true] else v | none => if ok then .tuple #[z, .bool false] else z) w := by
  have hf := run_findKey (P := P) (w := w) hK (findNow_is hk l 0 hl)
  have hc : ∀ b, (checkKey b 10000 K k).run P w = .ok () w := fun b => run_checkKey hK hk b 9999
  simp only [Instr.lookup, Sem.run_bind, run_underlying hT, MapKept.run_getObj_map hm, hc, hf, Result.andThen, Sem.run]
  cases h : findE k l 0 <;> cases ok <;> (rw [h] at hf; simp [hc, hf, Sem.run, hz, Result.andThen])
theorem run_update_new (w : World) (T K E : TypeId) (hT : P.underlying T = some (.map K E)) {d : TypeDesc} (hK : P.underlying K = some d) (m : Nat) (l : List MapEntry) (c : Nat) (hm : w.heap[m]? = some (.map l.toArray c)) (k v : Value) (hk : IsKey d k) (hl : ∀ x ∈ l, IsKey d x.key) (hn : findE k l 0 = none) :
    (Instr.mapUpdate T (.map (some m)) k v).run P w = .ok () { w with heap := w.heap.setIfInBounds m (.map (l ++ [(⟨k, v, c⟩ : MapEntry)]).toArray (c + 1)) } := by
  have hf := run_findKey (P := P) (w := w) hK (findNow_is hk l 0 hl)
  have hc : ∀ b, (checkKey b 10000 K k).run P w = .ok () w := fun b => run_checkKey hK hk b 9999
  simp only [Instr.mapUpdate, Sem.run_bind, run_underlying hT, MapKept.run_getObj_map hm, hc, hf, hn, Result.andThen, Sem.run, MapKept.run_setObj_map _ hm]
  rw [hn] at hf
  simp [hc, hf, MapKept.run_setObj_map _ hm, Sem.run]
section
variable {ops : Array Oper} {rest : List Oper} {o : Oper} {a : Act} {Q : Exit → Act → World → Prop}
/-- A look-up, for the walk: what the run answers. -/
theorem wpList_lookup_at (w : World) (hg : o.guard = none) (x y : Operand) (T : TypeId) (ok : Bool) (hop : o.op = Op.lookup T x y ok) (v : Value) (hrun : (Instr.lookup T (a.eval x) (a.eval y) ok).run P w = .ok v w) (h : wpList P ops Q rest (a.put o.dst v) w) : wpList P ops Q (o :: rest) a w := by
  refine wpList_plain hg fun K' hK' => ?_
  unfold Oper.wp
  simp [execOp, hop, hrun, Result.andThen]
  exact hK' _ _ h
theorem wpList_update_at (w w1 : World) (hg : o.guard = none) (x y z : Operand) (T : TypeId) (hop : o.op = Op.mapUpdate T x y z) (hd : o.dst = none) (hrun : (Instr.mapUpdate T (a.eval x) (a.eval y) (a.eval z)).run P w = .ok () w1) (h : wpList P ops Q rest a w1) : wpList P ops Q (o :: rest) a w := by
  refine wpList_plain hg fun K' hK' => ?_
  unfold Oper.wp
  simp [execOp, hop, hrun, Result.andThen]
  refine hK' _ _ ?_
  simpa [hd, Act.put] using h
end
end Go.MapRaw
