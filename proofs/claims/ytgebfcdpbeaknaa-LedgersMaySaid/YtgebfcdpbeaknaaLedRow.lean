/-
  LedgersMay: a tenant alone may be, if its name is one, its key is not empty and not too long, and its rate is as it may be. Whatever the tenant: the law answers true, and the tenant reads as it did. No condition.
-/
import Derived.Test.YtgebfcdpbeaknaaRows
import Derived.Test.YtgebfcdpbeaknaaLedLaw
import Derived.WalkKit
import Derived.ProofKit
import Derived.OpenShut
import Derived.ShutString
import Derived.ChangeOld
import Derived.Below
import Derived.SizedLaws
import Derived.Lib.SmallJoins
namespace Go.Proofs.Ytgebfcdpbeaknaa.ledgersMay
open Go.ChangeShapes Go.WideShapes Go.ChangeAt Go.RowKit
open Go.ChangeMaps (open_string shut_string)
open Go.Joins
set_option linter.unusedVariables false
theorem own : ownKnob Try.prog.godebug = none := by kernel_rfl
set_option maxRecDepth 100000 in
theorem lifted (os : Os) (started : os.Started) (H : Type) (enc : TypeId × Value → H) :
    ReturnsInHanded {} Try.checked os 3 .any (Rows.ledgersMaySpec.pre6 enc Try.prog Try.f3 Rows.ledgersMayRow.domain false) (Rows.ledgersMaySpec.post enc Try.prog Try.f3 false true false false) := by
  refine returnsInHanded_of_change_sized (C := Try.checked) own started (by kernel_rfl) Try.func3
    (ChangeSpec.witness6 (enc := enc) (C := Try.checked) false ⟨#[], #[.agg #[.string ByteArray.empty, .string ByteArray.empty, .int .i64 0]], []⟩ 8 (by kernel_rfl) (by kernel_rfl) (by kernel_rfl) (by kernel_rfl)) ?_
  intro W base args ds gs before hval0 hW hcnd hsz0 _
  have hval : ∀ (j : Nat) t v, Try.f3.params[j]? = some t → args[j]? = some v → Value.okWide Try.prog W .any base t v := hval0
  have hW' := hW
  obtain ⟨p, q, hA0, hV, rfl, hfz, hnd⟩ := hW
  have hA : DataW.TrodAll enc Try.prog W 0 (fun _ => true) true Try.f3.params.toList args.toList ds p := hA0
  rw [Try.params3] at hA hval
  obtain ⟨v0, vs0, d0, ds0, p0, q0, hargs, rfl, rfl, h0, r0⟩ := trodAll_cons hA
  obtain ⟨rfl, rfl, rfl⟩ := trodAll_nil r0
  obtain rfl : args = #[v0] := by cases args; simp_all
  obtain ⟨rfl, rfl⟩ := trodVars_none hV
  obtain ⟨c0, c1, c2, y0, y1, y2, m, rfl, rfl, rfl, hy0, hy1, hy2⟩ := open_agg3 Try.underlying23 (by kernel_rfl) (by kernel_rfl) (hval 0 23 v0 rfl rfl) h0
  obtain ⟨s0, e0, rfl, w0⟩ := DataW.trod_string Try.underlying9 hy0
  obtain ⟨s1, e1, rfl, w1⟩ := DataW.trod_string Try.underlying9 hy1
  obtain ⟨x, e2, rfl, w2⟩ := DataW.trod_int Try.underlying3 hy2
  simp at e0 e1 e2
  subst e0 e1 e2
  clear hA0 hval0 hsz0
  have hlaw : Calls Try.prog 3 #[.agg #[.string s0, .string s1, .int .i64 x]] W fun e w' => e = .returned (.bool true) ∧ Below W.heap.size W w' := by
    by_cases h1 : s0.size > 1000 ∨ s1.size > 1000
    · exact Led.law.great ⟨s0, s1, x⟩ W h1
    · exact Led.law.small ⟨s0, s1, x⟩ W (show s0.size ≤ 1000 by omega) (show s1.size ≤ 1000 by omega)
  refine hlaw.mono fun e W' ⟨he, bel⟩ => ?_
  subst he
  refine ⟨_, rfl, _, _, _, [], [], [], hW', trodAll_mk1 (shut_bool Try.underlying4 _), ?_, rfl, bel.frame _, fun h => by cases h⟩
  refine trodAll_cons_mk (p := []) (p' := []) ?_ trodAll_mk0
  exact shut_agg3 Try.underlying23 (by kernel_rfl) (by kernel_rfl) (by obtain ⟨n, hn⟩ := shut_string (P := Try.checked.prog) Try.underlying9 w0; exact ⟨n, by simpa [Value.cells] using hn⟩) (by obtain ⟨n, hn⟩ := shut_string (P := Try.checked.prog) Try.underlying9 w1; exact ⟨n, by simpa [Value.cells] using hn⟩) (by obtain ⟨n, hn⟩ := shut_int (P := Try.checked.prog) Try.underlying3 w2; exact ⟨n, by simpa [Value.cells] using hn⟩)
theorem over : Rows.ledgersMayRow.holds Try.pinned (OpenSpec.ofChange Rows.ledgersMaySpec) :=
  OpenClaim.holds_of_wide 3 Try.f3 rfl rfl rfl rfl rfl rfl rfl ⟨rfl, rfl, rfl, rfl, rfl⟩ rfl rfl rfl rfl rfl (by kernel_rfl) Try.func3 (by kernel_rfl)
    (of_decide_eq_true (by kernel_rfl)) (by unfold Func.isWrapper; first | (rw [if_pos (by decide +kernel)]; kernel_rfl) | (rw [if_neg (by decide +kernel)]; exact ⟨rfl, rfl⟩))
    (fun os started H enc _ => lifted os started H enc)
theorem proved : Rows.LedgersMaySaid := over
#print axioms proved
end Go.Proofs.Ytgebfcdpbeaknaa.ledgersMay
namespace Go.Proofs.Ytgebfcdpbeaknaa
/-- The row, under a short name, for the claim. -/
theorem ledgersMay_holds : Rows.LedgersMaySaid := ledgersMay.proved
end Go.Proofs.Ytgebfcdpbeaknaa
