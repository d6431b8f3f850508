-- Laid by wip/gen.py (a program of this session) over the kit's print.py, with hand-proved contracts among its functions. Not trusted: Lean checks it.
import Derived.Test.YtgebfcdpbeaknaaX0
import Derived.Test.YtgebfcdpbeaknaaX1
import Derived.Test.YtgebfcdpbeaknaaX12
import Derived.Test.YtgebfcdpbeaknaaLedNew
import Derived.Test.YtgebfcdpbeaknaaLedTick
namespace Go.Proofs.Ytgebfcdpbeaknaa.X
open Go.RowKit Go.Proofs.YtgebfcdpbeaknaaW.PrintWords Go.Proofs.YtgebfcdpbeaknaaW.PrintLast Go.Proofs.YtgebfcdpbeaknaaW.PrintMore
attribute [local go_sem] max2_int min2_int max_two min_two max_three min_three max_four min_four   -- for this text's walks alone
set_option linter.unusedVariables false
set_option linter.unusedSimpArgs false

/-! ### assayerlaw13_alive: function 4 -/
-- by hand: law13_alive.tpl
end Go.Proofs.Ytgebfcdpbeaknaa.X
namespace Go.Proofs.Ytgebfcdpbeaknaa.Led
open Go Go.RowKit Go.Proofs.Ytgebfcdpbeaknaa.X Go.Proofs.YtgebfcdpbeaknaaW.PrintWords Go.Proofs.YtgebfcdpbeaknaaW.PrintLast Go.MapRaw Go.MapKept
section
attribute [local go_sem] Oper.semAt_some
variable {base : Nat} {w : World} {pb mb : Nat} {ts : List Ten} {ls : List Int} {bs : List Nat}
/-- what 'left' answers -/
def leftR (ls : List Int) (q : Int) : Int := if 0 ≤ q ∧ q < (ls.length : Int) then ls.getD q.toNat 0 else -1
set_option maxHeartbeats 1000000 in
set_option maxRecDepth 100000 in
theorem left.calls (h : LedAt base w pb mb ts ls bs) (q : Int) :
    Calls Try.prog 8 #[.pointer (some ⟨pb, 0, none⟩), .int .i64 q] w fun e w' => e = .returned (.int .i64 (leftR ls q)) ∧ Drawn0 w w' := by
  have HH := Aside0.mk h
  clear h
  by_cases hq : 0 ≤ q ∧ q < (ls.length : Int)
  · have e1 : leftE ls q = 0 := by unfold leftE; rw [if_pos hq]
    have e2 : leftR ls q = leftV ls q := by unfold leftR leftV; rw [if_pos hq, if_pos hq]
    have E2 := Aside0.mk e2
    clear e2
    go_enter Try.func8, Try.ntmps8
    go_wp2_with (go_at_call 17; refine (Left.calls HH.out q).mono ?_; rw [e1]; rintro e w1 ⟨rfl, ⟨nd, rfl⟩⟩)
    go_ret
    exact ⟨by rw [E2.out]; rfl, ⟨nd, rfl⟩⟩
  · have e1 : leftE ls q = 1 := by unfold leftE; rw [if_neg hq]
    have e2 : leftR ls q = -1 := by unfold leftR; rw [if_neg hq]
    have E2 := Aside0.mk e2
    clear e2
    go_enter Try.func8, Try.ntmps8
    go_wp2_with (go_at_call 17; refine (Left.calls HH.out q).mono ?_; rw [e1]; rintro e w1 ⟨rfl, ⟨nd, rfl⟩⟩)
    go_ret
    exact ⟨by rw [E2.out]; rfl, ⟨nd, rfl⟩⟩

def ann : Ten := ⟨⟨#[97, 110, 110]⟩, ⟨#[107]⟩, 5⟩
def bob : Ten := ⟨⟨#[98, 111, 98]⟩, ⟨#[107]⟩, 2⟩
theorem ann_may : ∀ seen, ann.f0 ∉ seen → mayT 20 seen ann = some true := by
  intro seen h
  have hn : ledgers_named.f 20 ann.f0 = some true := by decide +kernel
  rw [mayT, if_neg h, hn]
  simp [ann, ByteArray.size]
theorem bob_may : ∀ seen, bob.f0 ∉ seen → mayT 20 seen bob = some true := by
  intro seen h
  have hn : ledgers_named.f 20 bob.f0 = some true := by decide +kernel
  rw [mayT, if_neg h, hn]
  simp [bob, ByteArray.size]
theorem ann_not : ¬ ann.f0.toList = (⟨#[98, 111, 98]⟩ : ByteArray).toList := by decide +kernel
theorem ann_eve : ¬ ann.f0.toList = (⟨#[101, 118, 101]⟩ : ByteArray).toList := by decide +kernel
theorem bob_eve : ¬ bob.f0.toList = (⟨#[101, 118, 101]⟩ : ByteArray).toList := by decide +kernel
theorem ann_bob : bob.f0 ≠ ann.f0 := by decide
theorem may_two : mayL 20 [] [ann, bob] = some true := by
  simp only [mayL, ann_may [] (by simp), Option.bind_some, if_true, List.nil_append, bob_may [ann.f0] (by simp [ann_bob])]
theorem may_none : mayL 20 [] [] = some true := rfl
theorem may_twice : mayL 20 [] [ann, bob, ann] = some false := by
  simp only [mayL, ann_may [] (by simp), Option.bind_some, if_true, List.nil_append, bob_may [ann.f0] (by simp [ann_bob])]
  rw [mayT, if_pos (by simp)]
  simp
theorem two_is : assayerlaw13_two.f = some [ann, bob] := rfl

theorem left_at (h : LedAt base w pb mb ts ls bs) (q v : Int) (hv : leftR ls q = v) : Calls Try.prog 8 #[.pointer (some ⟨pb, 0, none⟩), .int .i64 q] w fun e w' => e = .returned (.int .i64 v) ∧ ∃ n, w' = w.drewN n := (left.calls h q).mono fun e w' ⟨he, hd⟩ => ⟨by rw [he, hv], hd.out⟩
theorem spend_at (h : LedAt base w pb mb ts ls bs) (q n v : Int) (hv : spendE ls q n = v) (h0 : v ≠ 0) : Calls Try.prog 10 #[.pointer (some ⟨pb, 0, none⟩), .int .i64 q, .int .i64 n] w fun e w' => e = .returned (.int .i64 v) ∧ ∃ n, w' = w.drewN n := (Spend.calls h q n).mono fun e w' ⟨he, _, _, hd⟩ => ⟨by rw [he, hv], (hd (by rw [hv]; exact h0)).out⟩
theorem spend_neg : spendE [2, 2] 0 (-1) = 1 := by unfold spendE; rw [if_neg (by decide)]
theorem lt_of_cell {W : World} {b k : Nat} {v : Value} (h : W.cell? ⟨b, k, none⟩ = some v) : b < W.heap.size := by
  rcases Nat.lt_or_ge b W.heap.size with h1 | h1
  · exact h1
  · simp [World.cell?, Array.getElem?_eq_none h1] at h
end
end Go.Proofs.Ytgebfcdpbeaknaa.Led
namespace Go.Proofs.Ytgebfcdpbeaknaa.X
open Go Go.RowKit Go.Proofs.Ytgebfcdpbeaknaa.Led Go.Proofs.YtgebfcdpbeaknaaW.PrintWords Go.Proofs.YtgebfcdpbeaknaaW.PrintLast Go.Proofs.YtgebfcdpbeaknaaW.PrintMore Go.MapRaw Go.MapKept
def assayerlaw13_alive.f : Option Bool := some true
attribute [local go_sem] Oper.semAt_some
set_option maxHeartbeats 8000000 in
set_option maxRecDepth 100000 in
theorem assayerlaw13_alive.calls (r : Bool) (w : World) (hr : assayerlaw13_alive.f = some r) : Calls Try.prog 4 #[] w fun e w' => e = .returned (.bool r) ∧ Below w.heap.size w w' := by
  obtain rfl := Option.some.inj hr
  go_enter Try.func4, Try.ntmps4
  go_wp2_with fail
  refine (assayerlaw13_two.calls _ w two_is).mono ?_
  rintro e w1 ⟨v1, rfl, hR1, hb1⟩
  obtain ⟨A1, c1, rfl, hc1, hC1⟩ := Kd.R_reads hR1
  go_wp2_with fail
  refine (New.calls 20 A1 c1 [ann, bob] w1 true hC1 hc1 may_two).mono ?_
  rintro e w2 ⟨hb2, hN⟩
  unfold NewPost at hN
  rw [if_pos (by decide)] at hN
  obtain ⟨pb, mb, bs, rfl, HL⟩ := hN
  have HB := Aside0.mk (below_step hb1 hb2)
  have HS := Aside0.mk hb1.size
  replace HL := Aside0.mk HL
  clear hR1 hb1 hC1 hc1 hb2
  go_wp2_with fail
  refine (New.calls 20 none 0 [] w2 true ⟨rfl, by decide, fun h => absurd h (by decide)⟩ (Nat.le_refl _) may_none).mono ?_
  rintro e w3 ⟨hb3, hN⟩
  unfold NewPost at hN
  rw [if_neg (by decide)] at hN
  subst hN
  have HL3 := Aside0.mk (HL.out.move (fun k hk _ => hb3.block k hk))
  have HB3 := Aside0.mk (below_step HB.out hb3)
  clear HL HB hb3
  go_wp2_with fail
  refine (assayerlaw13_two.calls _ w3 two_is).mono ?_
  rintro e w4 ⟨v4, rfl, hR4, hb4⟩
  obtain ⟨A4, c4, rfl⟩ := Kd.R_slice hR4
  go_wp2_with fail
  refine (assayerlaw13_two.calls _ w4 two_is).mono ?_
  rintro e w5 ⟨v5, rfl, hR5, hb5⟩
  obtain ⟨A5, c5, rfl, hc5, hC5⟩ := Kd.R_reads hR5
  obtain ⟨ad, rfl, hd0, hd1, hd2⟩ := at_T23 hC5 (0 : Int) (by omega) (by decide)
  have HR4 := Aside0.mk (Kd.R_below hR4 hb5)
  have HB35 := Aside0.mk (below_step hb4 hb5)
  clear hR4 hb4 hR5 hb5 hc5 hC5
  have ez : ad.add ((0 : Int).toNat * 3) = ad := by simp [Addr.add]
  rw [ez] at hd0 hd1 hd2
  have hzz : rd_T23 [ann, bob] (0 : Int) = ann := rfl
  rw [hzz] at hd0 hd1 hd2
  clear ez hzz
  go_wp2_with (first | ((with_reducible refine gate_builtin (b := .append) (xs := #[.tmp 23, .tmp 27]) rfl ?_); at_builtin; refine Kd.R_append k23 (w0 := w3) w3.heap.size rfl (.tmp 23) (.tmp 27) 30 23 (.agg #[(.string ⟨#[]⟩), (.string ⟨#[]⟩), (.int .i64 0)]) 40 rfl Try.underlying30 info23 rfl (by decide) (by omega) _ [ann, bob] ann [.string ann.f0, .string ann.f1, .int .i64 ann.f2] (fun _ => True) (fun _ => False) rfl rfl (k23_mkM _ _ _ ann) (fun _ hk => hk.elim) (fun _ _ => trivial) HR4.out HB35.out HB35.out.size (by decide) ?_; intro v6 w6 ho hb hg hat))
  obtain ⟨A6, c6, rfl, hc6, hC6⟩ := Kd.R_reads ho
  have HL6 := HL3.out.move (fun k hk _ => hb.block k hk)
  have hB6 := below_step HB3.out hb
  refine (New.calls 20 A6 c6 [ann, bob, ann] w6 false hC6 hc6 may_twice).mono ?_
  rintro e w7 ⟨hb7, hN⟩
  unfold NewPost at hN
  rw [if_neg (by simp)] at hN
  subst hN
  have HL7 := Aside0.mk (HL6.move (fun k hk _ => hb7.block k hk))
  have HB7 := Aside0.mk (below_step hB6 hb7)
  clear ho hb hg hat hc6 hC6 HL6 hB6 hb7 HL3 HB3 HR4 HB35 hd0 hd1 hd2
  have l0 : leftR (List.replicate [ann, bob].length 0) 0 = 0 := rfl
  go_wp2_with (first | (go_at_call 8; refine (left.calls HL7.out 0).mono ?_; rw [l0]; rintro e w8 ⟨rfl, ⟨n8, rfl⟩⟩))
  have hv : (List.map (fun x : Ten => x.f2) [ann, bob]) = [5, 2] := rfl
  refine (Tick.calls (HL7.out.drewN n8)).mono ?_
  rw [hv]
  rintro e w9 ⟨rfl, hL9, hB9⟩
  have HL9 := Aside0.mk hL9
  have HB9 := Aside0.mk ((pw_below_drewN HB7.out n8).trans (hB9.mono HS.out))
  clear hL9 hB9 HL7 HB7 l0 hv
  have l1 : leftR [5, 2] 0 = 5 := rfl
  go_wp2_with (first | (go_at_call 8; refine (left.calls HL9.out 0).mono ?_; rw [l1]; rintro e w10 ⟨rfl, ⟨n10, rfl⟩⟩))
  have s1 : spendE [5, 2] 0 3 = 0 := rfl
  have s2 : spendL [5, 2] 0 3 = [2, 2] := by decide +kernel
  refine (Spend.calls (HL9.out.drewN n10) 0 3).mono ?_
  rw [s1, s2]
  rintro e w11 ⟨rfl, hL11, hB11, _⟩
  have HL11 := Aside0.mk hL11
  have HB11 := Aside0.mk ((pw_below_drewN HB9.out n10).trans (hB11.mono HS.out))
  clear hL11 hB11 HL9 HB9 l1 s1 s2
  go_wp2_with fail
  refine (Find.calls HL11.out _).mono ?_
  rintro e w12 ⟨hf, hL12, hB12⟩
  have he : e = .returned (.tuple #[.agg #[.string bob.f0, .string bob.f1, .int .i64 bob.f2], .int .i64 1, .int .i64 0]) := by
    rcases hf with ⟨j, hj, hq, he⟩ | ⟨hno, _⟩
    · match j, hj with
      | 0, _ => exact absurd hq ann_not
      | 1, _ => exact he
    · exact absurd rfl (hno 1 (by decide))
  subst he
  have HL12 := Aside0.mk hL12
  have HB12 := Aside0.mk (below_step HB11.out hB12)
  clear hf hL12 hB12 HL11 HB11
  go_wp2_with fail
  obtain ⟨W, hW⟩ : ∃ W, W = w12.alloc (Obj.cells #[Value.string bob.f0, Value.string bob.f1, Value.int IntKind.i64 bob.f2] 23) := ⟨_, rfl⟩
  have hbx : W.heap[w12.heap.size]? = some (.cells #[Value.string bob.f0, Value.string bob.f1, Value.int IntKind.i64 bob.f2] 23 (0, 0)) := by rw [hW]; exact (MapKept.heap_alloc w12 _).1
  have hWs : W.heap.size = w12.heap.size + 1 := by rw [hW]; simp
  have HLW := Aside0.mk (HL12.out.move (w' := W) (fun k hk _ => by rw [hW]; exact (MapKept.heap_alloc w12 _).2 k hk))
  have HBW := Aside0.mk (show Below w.heap.size w W from by rw [hW]; exact below_alloc HB12.out _)
  rw [← hW]
  clear hW HL12 HB12
  refine (Find.calls HLW.out _).mono ?_
  rintro e w13 ⟨hf, hL13, hB13⟩
  have he : e = .returned (.tuple #[.agg #[.string ByteArray.empty, .string ByteArray.empty, .int .i64 0], .int .i64 0, .int .i64 6]) := by
    rcases hf with ⟨j, hj, hq, he⟩ | ⟨_, he⟩
    · match j, hj with
      | 0, _ => exact absurd hq ann_eve
      | 1, _ => exact absurd hq bob_eve
    · exact he
  subst he
  have hb13 : w13.heap[w12.heap.size]? = _ := (hB13.block _ (by omega)).trans hbx
  have HL13 := Aside0.mk hL13
  have HB13 := Aside0.mk (below_step HBW.out hB13)
  have hs13 : w12.heap.size < w13.heap.size := by have := hB13.size; omega
  clear hf hL13 hB13 hbx hWs HLW HBW
  go_wp2_with fail
  obtain ⟨V, hV⟩ : ∃ V, V = w13.alloc (Obj.cells #[Value.string ByteArray.empty, Value.string ByteArray.empty, Value.int IntKind.i64 0] 23) := ⟨_, rfl⟩
  have hVb : V.heap[w12.heap.size]? = some (.cells #[Value.string bob.f0, Value.string bob.f1, Value.int IntKind.i64 bob.f2] 23 (0, 0)) := by rw [hV]; exact ((MapKept.heap_alloc w13 _).2 _ hs13).trans hb13
  have HV := Aside0.mk (HL13.out.move (w' := V) (fun k hk _ => by rw [hV]; exact (MapKept.heap_alloc w13 _).2 k hk))
  have HBV := Aside0.mk (show Below w.heap.size w V from by rw [hV]; exact below_alloc HB13.out _)
  rw [← hV]
  clear hV HL13 HB13 hb13
  have hVlt : w12.heap.size < V.heap.size := (Array.getElem?_eq_some_iff.1 hVb).1
  have hV0 : V.cell? ⟨w12.heap.size, 0, none⟩ = some (.string bob.f0) := by simp [World.cell?, hVb]
  have hV1 : V.cell? ⟨w12.heap.size, 1, none⟩ = some (.string bob.f1) := by simp [World.cell?, hVb]
  have hV2 : V.cell? ⟨w12.heap.size, 2, none⟩ = some (.int .i64 bob.f2) := by simp [World.cell?, hVb]
  clear hVb hs13
  refine start_ (n := 43) (S := fun w' => LedAt w1.heap.size w' pb mb [ann, bob] [2, 2] bs ∧ Below w.heap.size w w' ∧ w'.cell? ⟨w12.heap.size, 0, none⟩ = some (.string bob.f0) ∧ w'.cell? ⟨w12.heap.size, 1, none⟩ = some (.string bob.f1) ∧ w'.cell? ⟨w12.heap.size, 2, none⟩ = some (.int .i64 bob.f2)) (ds := []) #[false, false, false, false, false, false, false, false, false, false, false, false, false, false, false, false, false, false, false, false, false, false, false, false, false, false, false, false, false, false, false, false, false, false, false, false, false, false, false, false, false, false, false] (by kernel_rfl) rfl rfl ⟨HV.out.drew, (below_drew HBV.out), hV0, hV1, hV2⟩ (fun hHeld => ?_)
  refine pure_ (i := 0) (N := some 76) (v := ?_) (a' := ?_) #[true, false, false, false, false, false, false, false, false, false, false, false, false, false, false, false, false, false, false, false, false, false, false, false, false, false, false, false, false, false, false, false, false, false, false, false, false, false, false, false, false, false, false] rfl rfl (by kernel_rfl) (fun _ _ _ h => h) (Or.inl ⟨by rfl, ?_⟩) ?_ ?_
  rotate_left
  · intro w'
    go_simp
    with_reducible rfl
  rotate_left
  · simp only [Act.put, List.setIfInBounds_toArray, List.set_cons_zero, List.set_cons_succ, i64_w, i32_w]
    rfl
  refine one_ (i := 1) (N := some 77) #[true, true, false, false, false, false, false, false, false, false, false, false, false, false, false, false, false, false, false, false, false, false, false, false, false, false, false, false, false, false, false, false, false, false, false, false, false, false, false, false, false, false, false] rfl rfl (by kernel_rfl) (by decide) (fun K hK => ?_)
  refine goes_ Try.func8 (by kernel_rfl) rfl #[.pointer (some ⟨pb, 0, none⟩), .int .i64 0] (by rfl) rfl rfl (by simp only [List.map_toArray, List.map_cons, List.map_nil]; rfl) ?_
  with_reducible refine (left_at hHeld.1 0 2 rfl).mono ?_
  rintro e w14 ⟨rfl, ⟨n14, rfl⟩⟩
  refine ⟨_, rfl, ?_⟩
  refine hK.out _ _ ⟨(hHeld.1.drewN n14), (pw_below_drewN hHeld.2.1 n14), hHeld.2.2.1, hHeld.2.2.2.1, hHeld.2.2.2.2⟩ (fun hHeld => ?_)
  clear hK K
  refine norm_ (a' := ?_) ?_ ?_
  rotate_left
  · show Act.put _ (some 77) _ = _
    simp only [Act.put, List.setIfInBounds_toArray, List.set_cons_zero, List.set_cons_succ, i64_w, i32_w]
    rfl
  refine pure_ (i := 2) (N := some 78) (v := ?_) (a' := ?_) #[true, true, true, false, false, false, false, false, false, false, false, false, false, false, false, false, false, false, false, false, false, false, false, false, false, false, false, false, false, false, false, false, false, false, false, false, false, false, false, false, false, false, false] rfl rfl (by kernel_rfl) (fun _ _ _ h => h) (Or.inl ⟨by rfl, ?_⟩) ?_ ?_
  rotate_left
  · intro w'
    go_simp
    with_reducible rfl
  rotate_left
  · simp only [Act.put, List.setIfInBounds_toArray, List.set_cons_zero, List.set_cons_succ, i64_w, i32_w]
    rfl
  refine pure_ (i := 3) (N := some 79) (v := ?_) (a' := ?_) #[true, true, true, true, false, false, false, false, false, false, false, false, false, false, false, false, false, false, false, false, false, false, false, false, false, false, false, false, false, false, false, false, false, false, false, false, false, false, false, false, false, false, false] rfl rfl (by kernel_rfl) (fun _ _ _ h => h) (Or.inl ⟨by rfl, ?_⟩) ?_ ?_
  rotate_left
  · intro w'
    go_simp
    with_reducible rfl
  rotate_left
  · simp only [Act.put, List.setIfInBounds_toArray, List.set_cons_zero, List.set_cons_succ, i64_w, i32_w]
    rfl
  refine pure_ (i := 4) (N := some 80) (v := ?_) (a' := ?_) #[true, true, true, true, true, false, false, false, false, false, false, false, false, false, false, false, false, false, false, false, false, false, false, false, false, false, false, false, false, false, false, false, false, false, false, false, false, false, false, false, false, false, false] rfl rfl (by kernel_rfl) (fun _ _ _ h => h) (Or.inl ⟨by rfl, ?_⟩) ?_ ?_
  rotate_left
  · intro w'
    go_simp
    with_reducible rfl
  rotate_left
  · simp only [Act.put, List.setIfInBounds_toArray, List.set_cons_zero, List.set_cons_succ, i64_w, i32_w]
    rfl
  refine one_ (i := 5) (N := some 81) #[true, true, true, true, true, true, false, false, false, false, false, false, false, false, false, false, false, false, false, false, false, false, false, false, false, false, false, false, false, false, false, false, false, false, false, false, false, false, false, false, false, false, false] rfl rfl (by kernel_rfl) (by decide) (fun K hK => ?_)
  refine goes_ Try.func8 (by kernel_rfl) rfl #[.pointer (some ⟨pb, 0, none⟩), .int .i64 1] (by rfl) rfl rfl (by simp only [List.map_toArray, List.map_cons, List.map_nil]; rfl) ?_
  with_reducible refine (left_at hHeld.1 1 2 rfl).mono ?_
  rintro e w15 ⟨rfl, ⟨n15, rfl⟩⟩
  refine ⟨_, rfl, ?_⟩
  refine hK.out _ _ ⟨(hHeld.1.drewN n15), (pw_below_drewN hHeld.2.1 n15), hHeld.2.2.1, hHeld.2.2.2.1, hHeld.2.2.2.2⟩ (fun hHeld => ?_)
  clear hK K
  refine norm_ (a' := ?_) ?_ ?_
  rotate_left
  · show Act.put _ (some 81) _ = _
    simp only [Act.put, List.setIfInBounds_toArray, List.set_cons_zero, List.set_cons_succ, i64_w, i32_w]
    rfl
  refine pure_ (i := 6) (N := some 82) (v := ?_) (a' := ?_) #[true, true, true, true, true, true, true, false, false, false, false, false, false, false, false, false, false, false, false, false, false, false, false, false, false, false, false, false, false, false, false, false, false, false, false, false, false, false, false, false, false, false, false] rfl rfl (by kernel_rfl) (fun _ _ _ h => h) (Or.inl ⟨by rfl, ?_⟩) ?_ ?_
  rotate_left
  · intro w'
    go_simp
    with_reducible rfl
  rotate_left
  · simp only [Act.put, List.setIfInBounds_toArray, List.set_cons_zero, List.set_cons_succ, i64_w, i32_w]
    rfl
  refine pure_ (i := 7) (N := some 83) (v := ?_) (a' := ?_) #[true, true, true, true, true, true, true, true, false, false, false, false, false, false, false, false, false, false, false, false, false, false, false, false, false, false, false, false, false, false, false, false, false, false, false, false, false, false, false, false, false, false, false] rfl rfl (by kernel_rfl) (fun _ _ _ h => h) (Or.inl ⟨by rfl, ?_⟩) ?_ ?_
  rotate_left
  · intro w'
    go_simp
    with_reducible rfl
  rotate_left
  · simp only [Act.put, List.setIfInBounds_toArray, List.set_cons_zero, List.set_cons_succ, i64_w, i32_w]
    rfl
  refine pure_ (i := 8) (N := some 84) (v := ?_) (a' := ?_) #[true, true, true, true, true, true, true, true, true, false, false, false, false, false, false, false, false, false, false, false, false, false, false, false, false, false, false, false, false, false, false, false, false, false, false, false, false, false, false, false, false, false, false] rfl rfl (by kernel_rfl) (fun _ _ _ h => h) (Or.inl ⟨by rfl, ?_⟩) ?_ ?_
  rotate_left
  · intro w'
    go_simp
    with_reducible rfl
  rotate_left
  · simp only [Act.put, List.setIfInBounds_toArray, List.set_cons_zero, List.set_cons_succ, i64_w, i32_w]
    rfl
  refine pure_ (i := 9) (N := some 85) (v := ?_) (a' := ?_) #[true, true, true, true, true, true, true, true, true, true, false, false, false, false, false, false, false, false, false, false, false, false, false, false, false, false, false, false, false, false, false, false, false, false, false, false, false, false, false, false, false, false, false] rfl rfl (by kernel_rfl) (fun _ _ _ h => h) (Or.inl ⟨by rfl, ?_⟩) ?_ ?_
  rotate_left
  · intro w'
    go_simp
    with_reducible rfl
  rotate_left
  · simp only [Act.put, List.setIfInBounds_toArray, List.set_cons_zero, List.set_cons_succ, i64_w, i32_w]
    rfl
  refine one_ (i := 10) (N := some 86) #[true, true, true, true, true, true, true, true, true, true, true, false, false, false, false, false, false, false, false, false, false, false, false, false, false, false, false, false, false, false, false, false, false, false, false, false, false, false, false, false, false, false, false] rfl rfl (by kernel_rfl) (by decide) (fun K hK => ?_)
  refine goes_ Try.func10 (by kernel_rfl) rfl #[.pointer (some ⟨pb, 0, none⟩), .int .i64 0, .int .i64 3] (by rfl) rfl rfl (by simp only [List.map_toArray, List.map_cons, List.map_nil]; rfl) ?_
  with_reducible refine (spend_at hHeld.1 0 3 3 rfl (by decide)).mono ?_
  rintro e w16 ⟨rfl, ⟨n16, rfl⟩⟩
  refine ⟨_, rfl, ?_⟩
  refine hK.out _ _ ⟨(hHeld.1.drewN n16), (pw_below_drewN hHeld.2.1 n16), hHeld.2.2.1, hHeld.2.2.2.1, hHeld.2.2.2.2⟩ (fun hHeld => ?_)
  clear hK K
  refine norm_ (a' := ?_) ?_ ?_
  rotate_left
  · show Act.put _ (some 86) _ = _
    simp only [Act.put, List.setIfInBounds_toArray, List.set_cons_zero, List.set_cons_succ, i64_w, i32_w]
    rfl
  refine pure_ (i := 11) (N := some 87) (v := ?_) (a' := ?_) #[true, true, true, true, true, true, true, true, true, true, true, true, false, false, false, false, false, false, false, false, false, false, false, false, false, false, false, false, false, false, false, false, false, false, false, false, false, false, false, false, false, false, false] rfl rfl (by kernel_rfl) (fun _ _ _ h => h) (Or.inl ⟨by rfl, ?_⟩) ?_ ?_
  rotate_left
  · intro w'
    go_simp
    with_reducible rfl
  rotate_left
  · simp only [Act.put, List.setIfInBounds_toArray, List.set_cons_zero, List.set_cons_succ, i64_w, i32_w]
    rfl
  refine pure_ (i := 12) (N := some 88) (v := ?_) (a' := ?_) #[true, true, true, true, true, true, true, true, true, true, true, true, true, false, false, false, false, false, false, false, false, false, false, false, false, false, false, false, false, false, false, false, false, false, false, false, false, false, false, false, false, false, false] rfl rfl (by kernel_rfl) (fun _ _ _ h => h) (Or.inl ⟨by rfl, ?_⟩) ?_ ?_
  rotate_left
  · intro w'
    go_simp
    with_reducible rfl
  rotate_left
  · simp only [Act.put, List.setIfInBounds_toArray, List.set_cons_zero, List.set_cons_succ, i64_w, i32_w]
    rfl
  refine pure_ (i := 13) (N := some 89) (v := ?_) (a' := ?_) #[true, true, true, true, true, true, true, true, true, true, true, true, true, true, false, false, false, false, false, false, false, false, false, false, false, false, false, false, false, false, false, false, false, false, false, false, false, false, false, false, false, false, false] rfl rfl (by kernel_rfl) (fun _ _ _ h => h) (Or.inl ⟨by rfl, ?_⟩) ?_ ?_
  rotate_left
  · intro w'
    go_simp
    with_reducible rfl
  rotate_left
  · simp only [Act.put, List.setIfInBounds_toArray, List.set_cons_zero, List.set_cons_succ, i64_w, i32_w]
    rfl
  refine pure_ (i := 14) (N := some 90) (v := ?_) (a' := ?_) #[true, true, true, true, true, true, true, true, true, true, true, true, true, true, true, false, false, false, false, false, false, false, false, false, false, false, false, false, false, false, false, false, false, false, false, false, false, false, false, false, false, false, false] rfl rfl (by kernel_rfl) (fun _ _ _ h => h) (Or.inl ⟨by rfl, ?_⟩) ?_ ?_
  rotate_left
  · intro w'
    go_simp
    with_reducible rfl
  rotate_left
  · simp only [Act.put, List.setIfInBounds_toArray, List.set_cons_zero, List.set_cons_succ, i64_w, i32_w]
    rfl
  refine one_ (i := 15) (N := some 91) #[true, true, true, true, true, true, true, true, true, true, true, true, true, true, true, true, false, false, false, false, false, false, false, false, false, false, false, false, false, false, false, false, false, false, false, false, false, false, false, false, false, false, false] rfl rfl (by kernel_rfl) (by decide) (fun K hK => ?_)
  refine goes_ Try.func10 (by kernel_rfl) rfl #[.pointer (some ⟨pb, 0, none⟩), .int .i64 2, .int .i64 1] (by rfl) rfl rfl (by simp only [List.map_toArray, List.map_cons, List.map_nil]; rfl) ?_
  with_reducible refine (spend_at hHeld.1 2 1 1 rfl (by decide)).mono ?_
  rintro e w17 ⟨rfl, ⟨n17, rfl⟩⟩
  refine ⟨_, rfl, ?_⟩
  refine hK.out _ _ ⟨(hHeld.1.drewN n17), (pw_below_drewN hHeld.2.1 n17), hHeld.2.2.1, hHeld.2.2.2.1, hHeld.2.2.2.2⟩ (fun hHeld => ?_)
  clear hK K
  refine norm_ (a' := ?_) ?_ ?_
  rotate_left
  · show Act.put _ (some 91) _ = _
    simp only [Act.put, List.setIfInBounds_toArray, List.set_cons_zero, List.set_cons_succ, i64_w, i32_w]
    rfl
  refine pure_ (i := 16) (N := some 92) (v := ?_) (a' := ?_) #[true, true, true, true, true, true, true, true, true, true, true, true, true, true, true, true, true, false, false, false, false, false, false, false, false, false, false, false, false, false, false, false, false, false, false, false, false, false, false, false, false, false, false] rfl rfl (by kernel_rfl) (fun _ _ _ h => h) (Or.inl ⟨by rfl, ?_⟩) ?_ ?_
  rotate_left
  · intro w'
    go_simp
    with_reducible rfl
  rotate_left
  · simp only [Act.put, List.setIfInBounds_toArray, List.set_cons_zero, List.set_cons_succ, i64_w, i32_w]
    rfl
  refine pure_ (i := 17) (N := some 93) (v := ?_) (a' := ?_) #[true, true, true, true, true, true, true, true, true, true, true, true, true, true, true, true, true, true, false, false, false, false, false, false, false, false, false, false, false, false, false, false, false, false, false, false, false, false, false, false, false, false, false] rfl rfl (by kernel_rfl) (fun _ _ _ h => h) (Or.inl ⟨by rfl, ?_⟩) ?_ ?_
  rotate_left
  · intro w'
    go_simp
    with_reducible rfl
  rotate_left
  · simp only [Act.put, List.setIfInBounds_toArray, List.set_cons_zero, List.set_cons_succ, i64_w, i32_w]
    rfl
  refine pure_ (i := 18) (N := some 94) (v := ?_) (a' := ?_) #[true, true, true, true, true, true, true, true, true, true, true, true, true, true, true, true, true, true, true, false, false, false, false, false, false, false, false, false, false, false, false, false, false, false, false, false, false, false, false, false, false, false, false] rfl rfl (by kernel_rfl) (fun _ _ _ h => h) (Or.inl ⟨by rfl, ?_⟩) ?_ ?_
  rotate_left
  · intro w'
    go_simp
    with_reducible rfl
  rotate_left
  · simp only [Act.put, List.setIfInBounds_toArray, List.set_cons_zero, List.set_cons_succ, i64_w, i32_w]
    rfl
  refine pure_ (i := 19) (N := some 95) (v := ?_) (a' := ?_) #[true, true, true, true, true, true, true, true, true, true, true, true, true, true, true, true, true, true, true, true, false, false, false, false, false, false, false, false, false, false, false, false, false, false, false, false, false, false, false, false, false, false, false] rfl rfl (by kernel_rfl) (fun _ _ _ h => h) (Or.inl ⟨by rfl, ?_⟩) ?_ ?_
  rotate_left
  · intro w'
    go_simp
    with_reducible rfl
  rotate_left
  · simp only [Act.put, List.setIfInBounds_toArray, List.set_cons_zero, List.set_cons_succ, i64_w, i32_w]
    rfl
  refine one_ (i := 20) (N := some 96) #[true, true, true, true, true, true, true, true, true, true, true, true, true, true, true, true, true, true, true, true, true, false, false, false, false, false, false, false, false, false, false, false, false, false, false, false, false, false, false, false, false, false, false] rfl rfl (by kernel_rfl) (by decide) (fun K hK => ?_)
  refine goes_ Try.func10 (by kernel_rfl) rfl #[.pointer (some ⟨pb, 0, none⟩), .int .i64 0, .int .i64 (-1)] (by rfl) rfl rfl (by simp only [List.map_toArray, List.map_cons, List.map_nil]; rfl) ?_
  with_reducible refine (spend_at hHeld.1 0 (-1) 1 spend_neg (by decide)).mono ?_
  rintro e w18 ⟨rfl, ⟨n18, rfl⟩⟩
  refine ⟨_, rfl, ?_⟩
  refine hK.out _ _ ⟨(hHeld.1.drewN n18), (pw_below_drewN hHeld.2.1 n18), hHeld.2.2.1, hHeld.2.2.2.1, hHeld.2.2.2.2⟩ (fun hHeld => ?_)
  clear hK K
  refine norm_ (a' := ?_) ?_ ?_
  rotate_left
  · show Act.put _ (some 96) _ = _
    simp only [Act.put, List.setIfInBounds_toArray, List.set_cons_zero, List.set_cons_succ, i64_w, i32_w]
    rfl
  refine pure_ (i := 21) (N := some 97) (v := ?_) (a' := ?_) #[true, true, true, true, true, true, true, true, true, true, true, true, true, true, true, true, true, true, true, true, true, true, false, false, false, false, false, false, false, false, false, false, false, false, false, false, false, false, false, false, false, false, false] rfl rfl (by kernel_rfl) (fun _ _ _ h => h) (Or.inl ⟨by rfl, ?_⟩) ?_ ?_
  rotate_left
  · intro w'
    go_simp
    with_reducible rfl
  rotate_left
  · simp only [Act.put, List.setIfInBounds_toArray, List.set_cons_zero, List.set_cons_succ, i64_w, i32_w]
    rfl
  refine pure_ (i := 22) (N := some 98) (v := ?_) (a' := ?_) #[true, true, true, true, true, true, true, true, true, true, true, true, true, true, true, true, true, true, true, true, true, true, true, false, false, false, false, false, false, false, false, false, false, false, false, false, false, false, false, false, false, false, false] rfl rfl (by kernel_rfl) (fun _ _ _ h => h) (Or.inl ⟨by rfl, ?_⟩) ?_ ?_
  rotate_left
  · intro w'
    go_simp
    with_reducible rfl
  rotate_left
  · simp only [Act.put, List.setIfInBounds_toArray, List.set_cons_zero, List.set_cons_succ, i64_w, i32_w]
    rfl
  refine pure_ (i := 23) (N := some 99) (v := ?_) (a' := ?_) #[true, true, true, true, true, true, true, true, true, true, true, true, true, true, true, true, true, true, true, true, true, true, true, true, false, false, false, false, false, false, false, false, false, false, false, false, false, false, false, false, false, false, false] rfl rfl (by kernel_rfl) (fun _ _ _ h => h) (Or.inl ⟨by rfl, ?_⟩) ?_ ?_
  rotate_left
  · intro w'
    go_simp
    with_reducible rfl
  rotate_left
  · simp only [Act.put, List.setIfInBounds_toArray, List.set_cons_zero, List.set_cons_succ, i64_w, i32_w]
    rfl
  refine pure_ (i := 24) (N := some 100) (v := ?_) (a' := ?_) #[true, true, true, true, true, true, true, true, true, true, true, true, true, true, true, true, true, true, true, true, true, true, true, true, true, false, false, false, false, false, false, false, false, false, false, false, false, false, false, false, false, false, false] rfl rfl (by kernel_rfl) (fun _ _ _ h => h) (Or.inl ⟨by rfl, ?_⟩) ?_ ?_
  rotate_left
  · intro w'
    go_simp
    with_reducible rfl
  rotate_left
  · simp only [Act.put, List.setIfInBounds_toArray, List.set_cons_zero, List.set_cons_succ, i64_w, i32_w]
    rfl
  refine pure_ (i := 25) (N := some 101) (v := ?_) (a' := ?_) #[true, true, true, true, true, true, true, true, true, true, true, true, true, true, true, true, true, true, true, true, true, true, true, true, true, true, false, false, false, false, false, false, false, false, false, false, false, false, false, false, false, false, false] rfl rfl (by kernel_rfl) (fun _ _ _ h => h) (Or.inl ⟨by rfl, ?_⟩) ?_ ?_
  rotate_left
  · intro w'
    go_simp
    with_reducible rfl
  rotate_left
  · simp only [Act.put, List.setIfInBounds_toArray, List.set_cons_zero, List.set_cons_succ, i64_w, i32_w]
    rfl
  refine pure_ (i := 26) (N := some 102) (v := ?_) (a' := ?_) #[true, true, true, true, true, true, true, true, true, true, true, true, true, true, true, true, true, true, true, true, true, true, true, true, true, true, true, false, false, false, false, false, false, false, false, false, false, false, false, false, false, false, false] rfl rfl (by kernel_rfl) (fun _ _ _ h => h) (Or.inl ⟨by rfl, ?_⟩) ?_ ?_
  rotate_left
  · intro w'
    go_simp
    with_reducible rfl
  rotate_left
  · simp only [Act.put, List.setIfInBounds_toArray, List.set_cons_zero, List.set_cons_succ, i64_w, i32_w]
    rfl
  refine pure_ (i := 27) (N := some 103) (v := ?_) (a' := ?_) #[true, true, true, true, true, true, true, true, true, true, true, true, true, true, true, true, true, true, true, true, true, true, true, true, true, true, true, true, false, false, false, false, false, false, false, false, false, false, false, false, false, false, false] rfl rfl (by kernel_rfl) (fun _ _ _ h => h) (Or.inl ⟨by rfl, ?_⟩) ?_ ?_
  rotate_left
  · intro w'
    go_simp
    with_reducible rfl
  rotate_left
  · simp only [Act.put, List.setIfInBounds_toArray, List.set_cons_zero, List.set_cons_succ, i64_w, i32_w]
    rfl
  refine pure_ (i := 28) (N := some 104) (v := ?_) (a' := ?_) #[true, true, true, true, true, true, true, true, true, true, true, true, true, true, true, true, true, true, true, true, true, true, true, true, true, true, true, true, true, false, false, false, false, false, false, false, false, false, false, false, false, false, false] rfl rfl (by kernel_rfl) (fun _ _ _ h => h) (Or.inl ⟨by rfl, ?_⟩) ?_ ?_
  rotate_left
  · intro w'
    go_simp
    with_reducible rfl
  rotate_left
  · simp only [Act.put, List.setIfInBounds_toArray, List.set_cons_zero, List.set_cons_succ, i64_w, i32_w]
    rfl
  refine pure_ (i := 29) (N := some 105) (v := ?_) (a' := ?_) #[true, true, true, true, true, true, true, true, true, true, true, true, true, true, true, true, true, true, true, true, true, true, true, true, true, true, true, true, true, true, false, false, false, false, false, false, false, false, false, false, false, false, false] rfl rfl (by kernel_rfl) (fun _ _ _ h => h) (Or.inl ⟨by rfl, ?_⟩) ?_ ?_
  rotate_left
  · intro w'
    go_simp
    with_reducible rfl
  rotate_left
  · simp only [Act.put, List.setIfInBounds_toArray, List.set_cons_zero, List.set_cons_succ, i64_w, i32_w]
    rfl
  refine pure_ (i := 30) (N := some 106) (v := ?_) (a' := ?_) #[true, true, true, true, true, true, true, true, true, true, true, true, true, true, true, true, true, true, true, true, true, true, true, true, true, true, true, true, true, true, true, false, false, false, false, false, false, false, false, false, false, false, false] rfl rfl (by kernel_rfl) (fun _ _ _ h => h) (Or.inl ⟨by rfl, ?_⟩) ?_ ?_
  rotate_left
  · intro w'
    go_simp
    with_reducible rfl
  rotate_left
  · simp only [Act.put, List.setIfInBounds_toArray, List.set_cons_zero, List.set_cons_succ, i64_w, i32_w]
    rfl
  refine pure_ (i := 31) (N := some 107) (v := ?_) (a' := ?_) #[true, true, true, true, true, true, true, true, true, true, true, true, true, true, true, true, true, true, true, true, true, true, true, true, true, true, true, true, true, true, true, true, false, false, false, false, false, false, false, false, false, false, false] rfl rfl (by kernel_rfl) (fun _ _ _ h => h) (Or.inl ⟨by rfl, ?_⟩) ?_ ?_
  rotate_left
  · intro w'
    go_simp
    with_reducible rfl
  rotate_left
  · simp only [Act.put, List.setIfInBounds_toArray, List.set_cons_zero, List.set_cons_succ, i64_w, i32_w]
    rfl
  refine take_ (i := 32) (N := some 108) (v := ?_) (a' := ?_) #[true, true, true, true, true, true, true, true, true, true, true, true, true, true, true, true, true, true, true, true, true, true, true, true, true, true, true, true, true, true, true, true, true, false, false, false, false, false, false, false, false, false, false] rfl rfl (by kernel_rfl) (fun _ _ _ h => h) (Or.inl ⟨by rfl, ?_⟩) hHeld ?_ ?_
  rotate_left
  · rintro w' ⟨s0, s1, s2, s3, s4⟩
    go_simp
    with_reducible rfl
  rotate_left
  · simp only [Act.put, List.setIfInBounds_toArray, List.set_cons_zero, List.set_cons_succ, i64_w, i32_w]
    rfl
  refine one_ (i := 33) (N := some 109) #[true, true, true, true, true, true, true, true, true, true, true, true, true, true, true, true, true, true, true, true, true, true, true, true, true, true, true, true, true, true, true, true, true, true, false, false, false, false, false, false, false, false, false] rfl rfl (by kernel_rfl) (by decide) (fun K hK => ?_)
  refine goes_ Try.func7 (by kernel_rfl) rfl #[] (by rfl) rfl rfl (by simp only [List.map_toArray, List.map_cons, List.map_nil]) ?_
  with_reducible refine (assayerlaw13_two.calls _ _ two_is).mono ?_
  rintro e w19 ⟨v19, rfl, hR, hb⟩
  obtain ⟨A9, c9, rfl, hc9, hC9⟩ := Kd.R_reads hR
  obtain ⟨ad9, rfl, he0, he1, he2⟩ := at_T23 hC9 (1 : Int) (by omega) (by decide)
  have hrd9 : rd_T23 [ann, bob] (1 : Int) = bob := rfl
  rw [hrd9] at he0 he1 he2
  have ez9 : ((1 : Int).toNat * 3) = 3 := rfl
  rw [ez9] at he0 he1 he2
  have ead9 : ad9.add 3 = ⟨ad9.block, ad9.off + 3, none⟩ := by simp [Addr.add]
  rw [ead9] at he0 he1 he2
  dsimp only at he1 he2
  refine ⟨_, rfl, ?_⟩
  refine hK.out _ _ ⟨(hHeld.1.move (fun k hk _ => hb.block k hk)), (below_step hHeld.2.1 hb), ((hb.cell (p := ⟨w12.heap.size, 0, none⟩) (lt_of_cell hHeld.2.2.1)).trans hHeld.2.2.1), ((hb.cell (p := ⟨w12.heap.size, 1, none⟩) (lt_of_cell hHeld.2.2.1)).trans hHeld.2.2.2.1), ((hb.cell (p := ⟨w12.heap.size, 2, none⟩) (lt_of_cell hHeld.2.2.1)).trans hHeld.2.2.2.2)⟩ (fun hHeld => ?_)
  clear hK K
  refine norm_ (a' := ?_) ?_ ?_
  rotate_left
  · show Act.put _ (some 109) _ = _
    simp only [Act.put, List.setIfInBounds_toArray, List.set_cons_zero, List.set_cons_succ, i64_w, i32_w]
    rfl
  refine pure_ (i := 34) (N := some 110) (v := ?_) (a' := ?_) #[true, true, true, true, true, true, true, true, true, true, true, true, true, true, true, true, true, true, true, true, true, true, true, true, true, true, true, true, true, true, true, true, true, true, true, false, false, false, false, false, false, false, false] rfl rfl (by kernel_rfl) (fun _ _ _ h => h) (Or.inl ⟨by rfl, ?_⟩) ?_ ?_
  rotate_left
  · intro w'
    go_simp
    with_reducible rfl
  rotate_left
  · simp only [Act.put, List.setIfInBounds_toArray, List.set_cons_zero, List.set_cons_succ, i64_w, i32_w]
    rfl
  refine one_ (i := 35) (N := some 111) #[true, true, true, true, true, true, true, true, true, true, true, true, true, true, true, true, true, true, true, true, true, true, true, true, true, true, true, true, true, true, true, true, true, true, true, true, false, false, false, false, false, false, false] rfl rfl (by kernel_rfl) (by decide) (fun K hK => ?_)
  refine value_ (w1 := ?_) (v := ?_) (by rfl) rfl ?_ ?_
  rotate_left 2
  · go_simp
    constructor
    · rfl
    · rfl
  refine hK.out _ _ ⟨hHeld.1, hHeld.2.1, hHeld.2.2.1, hHeld.2.2.2.1, hHeld.2.2.2.2⟩ (fun hHeld => ?_)
  clear hK K
  refine norm_ (a' := ?_) ?_ ?_
  rotate_left
  · show Act.put _ (some 111) _ = _
    simp only [Act.put, List.setIfInBounds_toArray, List.set_cons_zero, List.set_cons_succ, i64_w, i32_w]
    rfl
  refine pure_ (i := 36) (N := some 112) (v := ?_) (a' := ?_) #[true, true, true, true, true, true, true, true, true, true, true, true, true, true, true, true, true, true, true, true, true, true, true, true, true, true, true, true, true, true, true, true, true, true, true, true, true, false, false, false, false, false, false] rfl rfl (by kernel_rfl) (fun _ _ _ h => h) (Or.inl ⟨by rfl, ?_⟩) ?_ ?_
  rotate_left
  · intro w'
    go_simp
    with_reducible rfl
  rotate_left
  · simp only [Act.put, List.setIfInBounds_toArray, List.set_cons_zero, List.set_cons_succ, i64_w, i32_w]
    rfl
  refine pure_ (i := 37) (N := some 113) (v := ?_) (a' := ?_) #[true, true, true, true, true, true, true, true, true, true, true, true, true, true, true, true, true, true, true, true, true, true, true, true, true, true, true, true, true, true, true, true, true, true, true, true, true, true, false, false, false, false, false] rfl rfl (by kernel_rfl) (fun _ _ _ h => h) (Or.inl ⟨by rfl, ?_⟩) ?_ ?_
  rotate_left
  · intro w'
    go_simp
    with_reducible rfl
  rotate_left
  · simp only [Act.put, List.setIfInBounds_toArray, List.set_cons_zero, List.set_cons_succ, i64_w, i32_w]
    rfl
  refine pure_ (i := 38) (N := some 114) (v := ?_) (a' := ?_) #[true, true, true, true, true, true, true, true, true, true, true, true, true, true, true, true, true, true, true, true, true, true, true, true, true, true, true, true, true, true, true, true, true, true, true, true, true, true, true, false, false, false, false] rfl rfl (by kernel_rfl) (fun _ _ _ h => h) (Or.inl ⟨by rfl, ?_⟩) ?_ ?_
  rotate_left
  · intro w'
    go_simp
    with_reducible rfl
  rotate_left
  · simp only [Act.put, List.setIfInBounds_toArray, List.set_cons_zero, List.set_cons_succ, i64_w, i32_w]
    rfl
  refine pure_ (i := 39) (N := some 115) (v := ?_) (a' := ?_) #[true, true, true, true, true, true, true, true, true, true, true, true, true, true, true, true, true, true, true, true, true, true, true, true, true, true, true, true, true, true, true, true, true, true, true, true, true, true, true, true, false, false, false] rfl rfl (by kernel_rfl) (fun _ _ _ h => h) (Or.inl ⟨by rfl, ?_⟩) ?_ ?_
  rotate_left
  · intro w'
    go_simp
    with_reducible rfl
  rotate_left
  · simp only [Act.put, List.setIfInBounds_toArray, List.set_cons_zero, List.set_cons_succ, i64_w, i32_w]
    rfl
  refine pure_ (i := 40) (N := some 116) (v := ?_) (a' := ?_) #[true, true, true, true, true, true, true, true, true, true, true, true, true, true, true, true, true, true, true, true, true, true, true, true, true, true, true, true, true, true, true, true, true, true, true, true, true, true, true, true, true, false, false] rfl rfl (by kernel_rfl) (fun _ _ _ h => h) (Or.inl ⟨by rfl, ?_⟩) ?_ ?_
  rotate_left
  · intro w'
    go_simp
    with_reducible rfl
  rotate_left
  · simp only [Act.put, List.setIfInBounds_toArray, List.set_cons_zero, List.set_cons_succ, i64_w, i32_w]
    rfl
  refine pure_ (i := 41) (N := some 117) (v := ?_) (a' := ?_) #[true, true, true, true, true, true, true, true, true, true, true, true, true, true, true, true, true, true, true, true, true, true, true, true, true, true, true, true, true, true, true, true, true, true, true, true, true, true, true, true, true, true, false] rfl rfl (by kernel_rfl) (fun _ _ _ h => h) (Or.inl ⟨by rfl, ?_⟩) ?_ ?_
  rotate_left
  · intro w'
    go_simp
    with_reducible rfl
  rotate_left
  · simp only [Act.put, List.setIfInBounds_toArray, List.set_cons_zero, List.set_cons_succ, i64_w, i32_w]
    rfl
  refine pure_ (i := 42) (N := some 0) (v := ?_) (a' := ?_) #[true, true, true, true, true, true, true, true, true, true, true, true, true, true, true, true, true, true, true, true, true, true, true, true, true, true, true, true, true, true, true, true, true, true, true, true, true, true, true, true, true, true, true] rfl rfl (by kernel_rfl) (fun _ _ _ h => h) (Or.inl ⟨by rfl, ?_⟩) ?_ ?_
  rotate_left
  · intro w'
    go_simp
    with_reducible rfl
  rotate_left
  · simp only [Act.put, List.setIfInBounds_toArray, List.set_cons_zero, List.set_cons_succ, i64_w, i32_w]
    rfl
  refine done_ (by kernel_rfl) ?_
  go_wp2
  go_ret
  exact ⟨rfl, hHeld.2.1⟩

end Go.Proofs.Ytgebfcdpbeaknaa.X
