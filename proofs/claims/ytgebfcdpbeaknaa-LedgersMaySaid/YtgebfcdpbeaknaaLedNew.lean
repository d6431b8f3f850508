/-
  What 'ledgers.New' does: whether the tenants may be, and the ledger that it lays.
-/
import Derived.Test.YtgebfcdpbeaknaaX12
import Derived.Test.YtgebfcdpbeaknaaX10
import Derived.Test.YtgebfcdpbeaknaaLedMem
import Derived.Maps.Own
import Derived.Maps.OwnOps
set_option linter.unusedVariables false
set_option linter.unusedSimpArgs false
namespace Go.Proofs.Ytgebfcdpbeaknaa.Led
open Go Go.RowKit Go.Proofs.Ytgebfcdpbeaknaa.X Go.Proofs.YtgebfcdpbeaknaaW.PrintWords Go.Proofs.YtgebfcdpbeaknaaW.PrintLast Go.MapRaw Go.MapKept
attribute [local go_sem] Oper.semAt_some

/-- may a tenant be, behind those of these names? As the program asks it. -/
noncomputable def mayT (k : Nat) (seen : List ByteArray) (x : Ten) : Option Bool := open Classical in
  if x.f0 ∈ seen then some false else
  (ledgers_named.f k x.f0).bind fun a => if a = true then (if 1 ≤ (x.f1.size : Int) ∧ (x.f1.size : Int) ≤ 64 then some (decide (1 ≤ x.f2 ∧ x.f2 ≤ 1073741824)) else some false) else some false
noncomputable def mayL (k : Nat) : List ByteArray → List Ten → Option Bool
  | _, [] => some true
  | seen, x :: l => (mayT k seen x).bind fun a => if a = true then mayL k (seen ++ [x.f0]) l else some false
theorem between_f (a b c : Int) : ledgers_between_int.f a b c = some (decide (b ≤ a ∧ a ≤ c)) := by
  unfold ledgers_between_int.f
  by_cases h : b ≤ a
  · by_cases h2 : a ≤ c <;> simp [h, h2]
  · simp [h]
theorem between_calls (a b c : Int) (w : World) : Calls Try.prog 15 #[.int .i64 a, .int .i64 b, .int .i64 c] w fun e w' => e = .returned (.bool (decide (b ≤ a ∧ a ≤ c))) ∧ Drawn0 w w' := ledgers_between_int.calls a b c _ w (between_f a b c)

/-- A store at a key that is not there: what it leaves. -/
theorem upd_new {P : Program} (w : World) (T K E : TypeId) (hT : P.underlying T = some (.map K E)) {d : TypeDesc} (hK : P.underlying K = some d) (m : Nat) (l : List MapEntry) (c : Nat) (hm : w.heap[m]? = some (.map l.toArray c)) (k v : Value) (hk : IsKey d k) (hl : ∀ x ∈ l, IsKey d x.key) (hn : findE k l 0 = none) :
    ∃ w1, (Instr.mapUpdate T (.map (some m)) k v).run P w = .ok () w1 ∧ w1.heap[m]? = some (.map (l ++ [(⟨k, v, c⟩ : MapEntry)]).toArray (c + 1)) ∧ w1.heap.size = w.heap.size ∧ w.grownBy w1 (some m) := by
  refine ⟨_, run_update_new w T K E hT hK m l c hm k v hk hl hn, (heap_set hm).1, by simp, ⟨rfl, rfl, rfl, by simp, fun i hi hne => (heap_set hm).2 i (fun e => hne (by rw [e]))⟩⟩
theorem round_end (w wr W1 w2 : World) (ts : List Ten) (i : Nat) (hlt : i < ts.length) (bs : List Nat) (x : Ten) (hx : x = ts[i]) (HAcc : Accs w.heap.size wr (ts.take i) (List.replicate i 0) bs)
    (HN : wr.heap[w.heap.size]? = some (.map (namesE ((ts.take i).map (·.f0)) 0).toArray i)) (HAll : wr.heap[w.heap.size + 1]? = some (.map (allE bs 0).toArray i)) (HB : Below w.heap.size w wr)
    (h1 : Below wr.heap.size wr W1) (hxb : W1.heap[wr.heap.size]? = some (Obj.cells #[Value.string x.f0, Value.string x.f1, Value.int IntKind.i64 x.f2] 23 (0, 0))) (hsz1 : W1.heap.size = wr.heap.size + 1) (h2 : Below W1.heap.size W1 w2) (hmem : x.f0 ∉ (ts.take i).map (·.f0)) :
    ∃ F G : Nat → World,
      (∀ n, (Instr.lookup 43 (.map (some w.heap.size)) (.string x.f0) false).run Try.prog (w2.drewN n) = .ok (.int .i64 0) (w2.drewN n)) ∧
      (∀ n, (Instr.mapUpdate 43 (.map (some w.heap.size)) (.string x.f0) (.int .i64 1)).run Try.prog (w2.drewN n) = .ok () (F n)) ∧
      (∀ n, (F n).cell? ⟨wr.heap.size, 0, none⟩ = some (.string x.f0)) ∧ (∀ n, (F n).cell? ⟨wr.heap.size, 1, none⟩ = some (.string x.f1)) ∧ (∀ n, (F n).cell? ⟨wr.heap.size, 2, none⟩ = some (.int .i64 x.f2)) ∧
      (∀ n, (Instr.mapUpdate 44 (.map (some (w.heap.size + 1))) (.int .i64 (i : Int)) (.pointer (some ⟨(F n).heap.size, 0, none⟩))).run Try.prog ((F n).alloc (.cells #[.string x.f0, .string x.f1, .int .i64 x.f2, .int .i64 0] 47)) = .ok () (G n)) ∧
      (∀ n, Accs w.heap.size (G n) (ts.take (i + 1)) (List.replicate (i + 1) 0) (bs ++ [(F n).heap.size]) ∧ (G n).heap[w.heap.size]? = some (.map (namesE ((ts.take (i + 1)).map (·.f0)) 0).toArray (i + 1)) ∧ (G n).heap[w.heap.size + 1]? = some (.map (allE (bs ++ [(F n).heap.size]) 0).toArray (i + 1)) ∧ Below w.heap.size w (G n)) := by
  have hNlt : w.heap.size < wr.heap.size := (Array.getElem?_eq_some_iff.1 HN).1
  have hAlt : w.heap.size + 1 < wr.heap.size := (Array.getElem?_eq_some_iff.1 HAll).1
  have hs1 := h1.size
  have hs2 := h2.size
  have hold : ∀ n r, r < wr.heap.size → (w2.drewN n).heap[r]? = wr.heap[r]? := fun n r hr => (h2.block r (by omega)).trans (h1.block r hr)
  have hN2 : ∀ n, (w2.drewN n).heap[w.heap.size]? = _ := fun n => (hold n _ hNlt).trans HN
  have hA2 : ∀ n, (w2.drewN n).heap[w.heap.size + 1]? = _ := fun n => (hold n _ hAlt).trans HAll
  have hx2 : ∀ n, (w2.drewN n).heap[wr.heap.size]? = _ := fun n => (h2.block _ (by omega)).trans hxb
  have hbl : bs.length = i := by rw [HAcc.len, List.length_take]; omega
  have hF := fun n => upd_new (P := Try.prog) (w2.drewN n) 43 9 3 Try.underlying43 Try.underlying9 w.heap.size (namesE ((ts.take i).map (·.f0)) 0) i (hN2 n) (.string x.f0) (.int .i64 1) trivial (namesE_keys .string (fun _ => trivial) _ _) (namesE_find x.f0 _ 0 0 hmem)
  obtain ⟨F, hF⟩ := Classical.axiomOfChoice hF
  have hFs : ∀ n, (F n).heap.size = w2.heap.size := fun n => (hF n).2.2.1
  have hFo : ∀ n r, r < w2.heap.size → r ≠ w.heap.size → (F n).heap[r]? = w2.heap[r]? := fun n r hr hne => (hF n).2.2.2.block r hr (by simpa using hne)
  have hal : ∀ n, ((F n).alloc (.cells #[.string x.f0, .string x.f1, .int .i64 x.f2, .int .i64 0] 47)).heap[w.heap.size + 1]? = some (.map (allE bs 0).toArray i) := fun n => ((MapKept.heap_alloc (F n) _).2 _ (by rw [hFs]; omega)).trans ((hFo n _ (by omega) (by omega)).trans (hA2 0))
  have hfind : findE (.int .i64 (i : Int)) (allE bs 0) 0 = none := by
    rw [allE_find, dif_neg (by omega)]
  have hG := fun n => upd_new (P := Try.prog) ((F n).alloc (.cells #[.string x.f0, .string x.f1, .int .i64 x.f2, .int .i64 0] 47)) 44 3 45 Try.underlying44 Try.underlying3 (w.heap.size + 1) (allE bs 0) i (hal n) (.int .i64 (i : Int)) (.pointer (some ⟨(F n).heap.size, 0, none⟩)) rfl (allE_keys bs 0 (.int .i64) (fun _ => rfl)) hfind
  obtain ⟨G, hG⟩ := Classical.axiomOfChoice hG
  have hGo : ∀ n r, r < (F n).heap.size + 1 → r ≠ w.heap.size + 1 → (G n).heap[r]? = ((F n).alloc (.cells #[.string x.f0, .string x.f1, .int .i64 x.f2, .int .i64 0] 47)).heap[r]? := fun n r hr hne => (hG n).2.2.2.block r (by simpa using hr) (by simpa using hne)
  have hxF : ∀ n, (F n).heap[wr.heap.size]? = some (Obj.cells #[Value.string x.f0, Value.string x.f1, Value.int IntKind.i64 x.f2] 23 (0, 0)) := fun n => (hFo n _ (by omega) (by omega)).trans (hx2 0)
  refine ⟨F, G, fun n => ?_, fun n => (hF n).1, fun n => by simp [World.cell?, hxF n], fun n => by simp [World.cell?, hxF n], fun n => by simp [World.cell?, hxF n], fun n => (hG n).1, fun n => ⟨?_, ?_, ?_, ?_⟩⟩
  · have := run_lookup_raw (P := Try.prog) (w2.drewN n) 43 9 3 Try.underlying43 Try.underlying9 (.int .i64 0) (by simp [go_sem]) w.heap.size (namesE ((ts.take i).map (·.f0)) 0) i (hN2 n) (.string x.f0) trivial (namesE_keys .string (fun _ => trivial) _ _) false
    rw [namesE_find x.f0 _ 0 0 hmem] at this
    simpa using this
  · have hlow : ∀ j (h : j < bs.length), bs[j] < wr.heap.size := fun j h => by
      have := HAcc.at_ j (by rw [← HAcc.len]; exact h) h (by rw [HAcc.lenl, ← HAcc.len]; exact h)
      exact (Array.getElem?_eq_some_iff.1 this).1
    refine ⟨by simp [hbl]; omega, by simp; omega, ?_, ?_, ?_⟩
    · rw [List.nodup_append]
      refine ⟨HAcc.nodup, by simp, fun a ha b hb => ?_⟩
      obtain ⟨j, hj, rfl⟩ := List.getElem_of_mem ha
      have := hlow j hj
      simp only [List.mem_singleton] at hb
      rw [hb, hFs]
      omega
    · intro j hj
      rcases Nat.lt_or_ge j bs.length with h | h
      · rw [List.getElem_append_left h]; exact HAcc.low j h
      · rw [List.getElem_append_right h]
        simp only [List.getElem_singleton]
        rw [hFs]; omega
    · intro j hj hj1 hj2
      rcases Nat.lt_or_ge j bs.length with h | h
      · rw [List.getElem_append_left h]
        have hl := hlow j h
        have ha := HAcc.at_ j (by rw [← HAcc.len]; exact h) h (by rw [HAcc.lenl, ← HAcc.len]; exact h)
        have hne : bs[j] ≠ w.heap.size := fun e => by rw [e, HN] at ha; cases ha
        have hne2 : bs[j] ≠ w.heap.size + 1 := fun e => by rw [e, HAll] at ha; cases ha
        rw [hGo n _ (by rw [hFs]; omega) hne2, (MapKept.heap_alloc (F n) _).2 _ (by rw [hFs]; omega), hFo n _ (by omega) hne]
        have := hold 0 _ hl
        rw [show w2.heap[bs[j]]? = wr.heap[bs[j]]? from this, ha]
        simp
      · have he : j = bs.length := by simp at hj1; omega
        subst he
        rw [List.getElem_append_right (Nat.le_refl _)]
        simp only [Nat.sub_self, List.getElem_singleton]
        rw [hGo n _ (by omega) (by rw [hFs]; omega), (MapKept.heap_alloc (F n) _).1]
        simp only [List.getElem_take, List.getElem_replicate]
        simp only [hbl, ← hx]
  · rw [hGo n _ (by rw [hFs]; omega) (by omega), (MapKept.heap_alloc (F n) _).2 _ (by rw [hFs]; omega), (hF n).2.1, List.take_succ_eq_append_getElem hlt, List.map_append, List.map_cons, List.map_nil, namesE_snoc, ← hx]
    simp
    omega
  · rw [(hG n).2.1, allE_snoc, hbl]
    simp
  · have b1 : Below w.heap.size w w2 := ⟨h2.os.trans (h1.os.trans HB.os), h2.tape.trans (h1.tape.trans HB.tape), h2.output.trans (h1.output.trans HB.output), by have := HB.size; omega, fun r hr => (h2.block r (by omega)).trans ((h1.block r (by omega)).trans (HB.block r hr))⟩
    have g1 := (hF n).2.2.2
    have g2 := (hG n).2.2.2
    refine ⟨g2.os.trans (g1.os.trans b1.os), g2.tape.trans (g1.tape.trans b1.tape), g2.output.trans (g1.output.trans b1.output), ?_, fun r hr => ?_⟩
    · have := (hG n).2.2.1
      rw [this]; simp [hFs]; omega
    · rw [hGo n _ (by rw [hFs]; omega) (by omega), (MapKept.heap_alloc (F n) _).2 _ (by rw [hFs]; omega), hFo n _ (by omega) (by omega)]
      exact b1.block r hr
/-- what 'New' hands back -/
def NewPost (base : Nat) (ts : List Ten) (r : Bool) (e : Ending) (w' : World) : Prop :=
  if 1 ≤ ts.length ∧ ts.length ≤ 16 ∧ r = true then ∃ pb mb bs, e = .returned (.tuple #[.pointer (some ⟨pb, 0, none⟩), .int .i64 0]) ∧ LedAt base w' pb mb ts (List.replicate ts.length 0) bs
  else e = .returned (.tuple #[.pointer none, .int .i64 1])
theorem NewPost.no {base : Nat} {ts : List Ten} {w' : World} : NewPost base ts false (.returned (.tuple #[.pointer none, .int .i64 1])) w' := by
  unfold NewPost; rw [if_neg (by simp)]
theorem NewPost.many {base : Nat} {ts : List Ten} {r : Bool} {w' : World} (h : ¬ (1 ≤ (ts.length : Int) ∧ (ts.length : Int) ≤ 16)) : NewPost base ts r (.returned (.tuple #[.pointer none, .int .i64 1])) w' := by
  unfold NewPost; rw [if_neg (by omega)]
theorem NewPost.yes {base : Nat} {ts : List Ten} {w' : World} {pb mb : Nat} {bs : List Nat} (h : 1 ≤ (ts.length : Int) ∧ (ts.length : Int) ≤ 16) (hl : LedAt base w' pb mb ts (List.replicate ts.length 0) bs) : NewPost base ts true (.returned (.tuple #[.pointer (some ⟨pb, 0, none⟩), .int .i64 0])) w' := by
  unfold NewPost; rw [if_pos ⟨by omega, by omega, rfl⟩]; exact ⟨pb, mb, bs, rfl, hl⟩
set_option maxHeartbeats 2000000 in
set_option maxRecDepth 100000 in
theorem New.calls (k : Nat) (A : Option Addr) (c : Nat) (ts : List Ten) (w : World) (r : Bool) (hr : Kd.C k23 w A ts.length ts) (hc : ts.length ≤ c) (h : mayL k [] ts = some r) :
    Calls Try.prog 6 #[.slice A ts.length c] w fun e w' => Below w.heap.size w w' ∧
      NewPost w.heap.size ts r e w' := by
  by_cases hn : 1 ≤ (ts.length : Int) ∧ (ts.length : Int) ≤ 16
  · go_enter Try.func6, Try.ntmps6
    have hnd := decide_eq_true hn
    have hmk : ∀ (t : TypeId) (w : World), (Instr.makeMap t none).run Try.prog w = .ok (.map (some w.heap.size)) (w.alloc (.map #[] 0)) := fun _ _ => rfl
    go_wp2_with (first | (go_at_call 15; refine (between_calls _ _ _ _).mono ?_; rw [hnd]; rintro e w1 ⟨rfl, ⟨nd, rfl⟩⟩))
    go_loopg [16] ts.length (fun kq v16 w' => ∃ (i : Nat) (bs : List Nat), v16 = .int .i64 (i : Int) ∧ i + kq = ts.length ∧ Aside0 (mayL k ((ts.take i).map (·.f0)) (ts.drop i) = some r) ∧ Aside0 (Accs w.heap.size w' (ts.take i) (List.replicate i 0) bs) ∧ Aside0 (w'.heap[w.heap.size]? = some (.map (namesE ((ts.take i).map (·.f0)) 0).toArray i)) ∧ Aside0 (w'.heap[w.heap.size + 1]? = some (.map (allE bs 0).toArray i)) ∧ Aside0 (Below w.heap.size w w'))
    case atStart =>
      refine ⟨0, [], rfl, by omega, ⟨h⟩, ⟨⟨rfl, rfl, by simp, by simp, by simp⟩⟩, ⟨?_⟩, ⟨?_⟩, ⟨below_alloc (below_alloc (pw_below_drewN (Below.refl _ w) nd) _) _⟩⟩
      · exact ((MapKept.heap_alloc ((w.drewN nd).alloc (.map #[] 0)) _).2 w.heap.size (by simp)).trans (MapKept.heap_alloc (w.drewN nd) _).1
      · have e : ((w.drewN nd).alloc (.map #[] 0)).heap.size = w.heap.size + 1 := by simp
        rw [← e]
        exact (MapKept.heap_alloc ((w.drewN nd).alloc (.map #[] 0)) _).1
    case round =>
      obtain ⟨i, bs, rfl, hik, HM, HAcc, HN, HAll, HB⟩ := hrel
      clear h
      cases gk with
      | zero =>
        have hi : i = ts.length := by omega
        subst hi
        have hr1 : r = true := by
          have := HM.out
          rw [List.drop_length] at this
          simpa [mayL] using this.symm
        subst hr1
        have hd0 : decide ((ts.length : Int) < (ts.length : Int)) = false := decide_eq_false (by omega)
        have hps : w.heap.size ≤ wr.heap.size := HB.out.size
        go_wp2
        go_ret2
        have hb1 := below_alloc HB.out (Obj.cells #[Value.map (some (w.heap.size + 1))] 49)
        have hAlt : w.heap.size + 1 < wr.heap.size := (Array.getElem?_eq_some_iff.1 HAll.out).1
        have hac := HAcc.out
        rw [List.take_length] at hac
        have hbl : bs.length = ts.length := hac.len
        refine ⟨hb1, NewPost.yes hn (mb := w.heap.size + 1) (bs := bs) ⟨⟨hac.len, hac.lenl, hac.nodup, hac.low, fun j h h1 h2 => ?_⟩, hps, by omega, ?_, ?_⟩⟩
        · have ha := hac.at_ j h h1 h2
          exact ((MapKept.heap_alloc wr _).2 _ (Array.getElem?_eq_some_iff.1 ha).1).trans ha
        · exact (MapKept.heap_alloc wr _).1
        · rw [hbl]; exact ((MapKept.heap_alloc wr _).2 _ hAlt).trans HAll.out
      | succ k1 =>
        have hlt : i < ts.length := by omega
        have hd0 : decide ((i : Int) < (ts.length : Int)) = true := decide_eq_true (by omega)
        have hd1 : decide (i < ts.length) = true := decide_eq_true hlt
        have hlt2 : (0 : Int) ≤ (i : Int) ∧ (i : Int) < (ts.length : Int) := ⟨by omega, by omega⟩
        obtain ⟨x, hx⟩ : ∃ x, x = ts[i] := ⟨_, rfl⟩
        have hdrop : ts.drop i = x :: ts.drop (i + 1) := by rw [hx]; exact List.drop_eq_getElem_cons hlt
        have HM1 := HM.out
        rw [hdrop, mayL] at HM1
        obtain ⟨ok, hok, HM2⟩ := Option.bind_eq_some_iff.mp HM1
        clear HM1 HM
        obtain ⟨ad, hA, hc0, hc1, hc2⟩ := at_T23 (Kd.C_below hr HB.out) (i : Int) (by omega) (by omega)
        have hrd : rd_T23 ts (i : Int) = x := by rw [hx]; simp [rd_T23, hlt]
        rw [hrd] at hc0 hc1 hc2
        simp only [Int.toNat_natCast] at hc0 hc1 hc2
        subst hA
        have HX := Aside0.mk hx
        have HD := Aside0.mk hdrop
        clear hx hdrop hrd
        obtain ⟨W1, hW1⟩ : ∃ W1, W1 = wr.alloc (Obj.cells #[Value.string x.f0, Value.string x.f1, Value.int IntKind.i64 x.f2] 23) := ⟨_, rfl⟩
        have hsz1 : W1.heap.size = wr.heap.size + 1 := by rw [hW1]; simp
        have hge : w.heap.size ≤ wr.heap.size := HB.out.size
        have hNlt : w.heap.size < wr.heap.size := (Array.getElem?_eq_some_iff.1 HN.out).1
        have hAlt : w.heap.size + 1 < wr.heap.size := (Array.getElem?_eq_some_iff.1 HAll.out).1
        have hB1 : Below wr.heap.size wr W1 := by rw [hW1]; exact below_alloc (Below.refl _ wr) _
        have hWN : W1.heap[w.heap.size]? = some (.map (namesE ((ts.take i).map (·.f0)) 0).toArray i) := (hB1.block _ hNlt).trans HN.out
        have hWA : W1.heap[w.heap.size + 1]? = some (.map (allE bs 0).toArray i) := (hB1.block _ hAlt).trans HAll.out
        have hxb : W1.heap[wr.heap.size]? = some (Obj.cells #[Value.string x.f0, Value.string x.f1, Value.int IntKind.i64 x.f2] 23 (0, 0)) := by rw [hW1]; exact (MapKept.heap_alloc wr _).1
        have hlk := run_lookup_raw (P := Try.prog) W1 43 9 3 Try.underlying43 Try.underlying9 (.int .i64 0) (by simp [go_sem]) w.heap.size (namesE ((ts.take i).map (·.f0)) 0) i hWN (.string x.f0) trivial (namesE_keys .string (fun _ => trivial) _ _) false
        rw [hW1] at hlk
        have HW1 := Aside0.mk hW1
        clear hW1
        by_cases hmem : x.f0 ∈ (ts.take i).map (·.f0)
        · obtain ⟨j, hf⟩ := namesE_found x.f0 _ 0 0 hmem
          rw [hf] at hlk
          simp only [Bool.false_eq_true, if_false] at hlk
          rw [mayT, if_pos hmem] at hok
          obtain rfl := Option.some.inj hok
          simp only [Bool.false_eq_true, if_false] at HM2
          obtain rfl := Option.some.inj HM2
          clear hf hWN hWA hxb hmem
          go_wp2
          go_ret2
          exact ⟨below_alloc HB.out _, NewPost.no⟩
        · rw [namesE_find x.f0 _ 0 0 hmem] at hlk
          simp only [Bool.false_eq_true, if_false] at hlk
          rw [mayT, if_neg hmem] at hok
          obtain ⟨a, A1, hok⟩ := Option.bind_eq_some_iff.mp hok
          replace A1 := Aside0.mk A1
          have HMEM := Aside0.mk hmem
          clear hmem
          have HBW := Aside0.mk (show Below w.heap.size w W1 from by rw [HW1.out]; exact below_alloc HB.out _)
          cases a
          · simp only [Bool.false_eq_true, if_false] at hok
            obtain rfl := Option.some.inj hok
            simp only [Bool.false_eq_true, if_false] at HM2
            obtain rfl := Option.some.inj HM2
            go_wp2_with (first | (go_at_call 16; rw [← HW1.out]; refine (ledgers_named.calls k x.f0 false _ A1.out).mono ?_; rintro e w2 ⟨rfl, hb2⟩; have HBc := Aside0.mk (below_step HBW.out hb2); clear hb2))
            go_ret2
            exact ⟨by repeat (first | exact HBc.out | apply pw_below_drewN), NewPost.no⟩
          · simp only [if_true] at hok
            by_cases hkey : 1 ≤ (x.f1.size : Int) ∧ (x.f1.size : Int) ≤ 64
            · rw [if_pos hkey] at hok
              have hkd := Aside0.mk (decide_eq_true hkey)
              clear hkey
              obtain ⟨b, hb⟩ : ∃ b, decide (1 ≤ x.f2 ∧ x.f2 ≤ 1073741824) = b := ⟨_, rfl⟩
              rw [hb] at hok
              obtain rfl := Option.some.inj hok
              replace hb := Aside0.mk hb
              cases b
              · simp only [Bool.false_eq_true, if_false] at HM2
                obtain rfl := Option.some.inj HM2
                go_wp2_with (first | (go_at_call 16; rw [← HW1.out]; refine (ledgers_named.calls k x.f0 true _ A1.out).mono ?_; rintro e w2 ⟨rfl, hb2⟩; have hy1 := (hb2.cell (p := ⟨wr.heap.size, 1, none⟩) (by rw [hsz1]; simp)).trans (show W1.cell? ⟨wr.heap.size, 1, none⟩ = some (.string x.f1) from by simp [World.cell?, hxb]); have hy2 := (hb2.cell (p := ⟨wr.heap.size, 2, none⟩) (by rw [hsz1]; simp)).trans (show W1.cell? ⟨wr.heap.size, 2, none⟩ = some (.int .i64 x.f2) from by simp [World.cell?, hxb]); have HBc := Aside0.mk hb2; clear hb2) | (go_at_call 15; refine (between_calls _ _ _ _).mono ?_; rw [hkd.out]; rintro e w3 ⟨rfl, ⟨nd3, rfl⟩⟩) | (go_at_call 15; refine (between_calls _ _ _ _).mono ?_; rw [hb.out]; rintro e w4 ⟨rfl, ⟨nd4, rfl⟩⟩))
                go_ret2
                exact ⟨by repeat (first | exact (below_step HBW.out HBc.out) | apply pw_below_drewN), NewPost.no⟩
              · simp only [if_true] at HM2
                have HM3 := Aside0.mk HM2
                have HK2 := Aside0.mk (fun w2 (hb2 : Below W1.heap.size W1 w2) => round_end w wr W1 w2 ts i hlt bs x HX.out HAcc.out HN.out HAll.out HB.out hB1 hxb hsz1 hb2 HMEM.out)
                go_wp2_with (first | (go_at_call 16; rw [← HW1.out]; refine (ledgers_named.calls k x.f0 true _ A1.out).mono ?_; rintro e w2 ⟨rfl, hb2⟩; obtain ⟨F, G, q1, q2, q3, q4, q5, q6, q7⟩ := HK2.out w2 hb2; replace q7 := Aside0.mk q7; have hy0 := (hb2.cell (p := ⟨wr.heap.size, 0, none⟩) (by rw [hsz1]; simp)).trans (show W1.cell? ⟨wr.heap.size, 0, none⟩ = some (.string x.f0) from by simp [World.cell?, hxb]); have hy1 := (hb2.cell (p := ⟨wr.heap.size, 1, none⟩) (by rw [hsz1]; simp)).trans (show W1.cell? ⟨wr.heap.size, 1, none⟩ = some (.string x.f1) from by simp [World.cell?, hxb]); have hy2 := (hb2.cell (p := ⟨wr.heap.size, 2, none⟩) (by rw [hsz1]; simp)).trans (show W1.cell? ⟨wr.heap.size, 2, none⟩ = some (.int .i64 x.f2) from by simp [World.cell?, hxb]); have HBc := Aside0.mk hb2; clear hb2) | (go_at_call 15; refine (between_calls _ _ _ _).mono ?_; rw [hkd.out]; rintro e w3 ⟨rfl, ⟨nd3, rfl⟩⟩) | (go_at_call 15; refine (between_calls _ _ _ _).mono ?_; rw [hb.out]; rintro e w4 ⟨rfl, ⟨nd4, rfl⟩⟩))
                go_roundg k1
                case measure => omega
                case rel =>
                  obtain ⟨z1, z2, z3, z4⟩ := q7.out (nd3 + nd4)
                  refine ⟨i + 1, _, by congr 1, by omega, ⟨?_⟩, ⟨z1⟩, ⟨z2⟩, ⟨z3⟩, ⟨z4⟩⟩
                  rw [List.take_succ_eq_append_getElem hlt, List.map_append, List.map_cons, List.map_nil, ← HX.out]
                  exact HM3.out
            · rw [if_neg hkey] at hok
              have hkd := Aside0.mk (decide_eq_false hkey)
              clear hkey
              obtain rfl := Option.some.inj hok
              simp only [Bool.false_eq_true, if_false] at HM2
              obtain rfl := Option.some.inj HM2
              go_wp2_with (first | (go_at_call 16; rw [← HW1.out]; refine (ledgers_named.calls k x.f0 true _ A1.out).mono ?_; rintro e w2 ⟨rfl, hb2⟩; have hy1 := (hb2.cell (p := ⟨wr.heap.size, 1, none⟩) (by rw [hsz1]; simp)).trans (show W1.cell? ⟨wr.heap.size, 1, none⟩ = some (.string x.f1) from by simp [World.cell?, hxb]); have HBc := Aside0.mk (below_step HBW.out hb2); clear hb2) | (go_at_call 15; refine (between_calls _ _ _ _).mono ?_; rw [hkd.out]; rintro e w3 ⟨rfl, ⟨nd3, rfl⟩⟩))
              go_ret2
              exact ⟨by repeat (first | exact HBc.out | apply pw_below_drewN), NewPost.no⟩
  · go_enter Try.func6, Try.ntmps6
    have hnd := decide_eq_false hn
    go_wp2_with (first | (go_at_call 15; refine (between_calls _ _ _ _).mono ?_; rw [hnd]; rintro e w1 ⟨rfl, ⟨nd, rfl⟩⟩))
    go_ret2
    exact ⟨pw_below_drewN (Below.refl _ w) nd, NewPost.many hn⟩
end Go.Proofs.Ytgebfcdpbeaknaa.Led
