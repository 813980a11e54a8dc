/- plan.Room, proved by walking its code. -/
import Derived.Test.YtifacclmfjmilaaCheck
import Derived.Test.YtifacclmfjmilaaMath
namespace Go.Proofs.Ytifacclmfjmilaa.Ext
open Go.RowKit Go.Shelf Go.Proofs.YtifacclmfjmilaaW.PrintWords Go.Proofs.YtifacclmfjmilaaW.PrintLast Go.Proofs.YtifacclmfjmilaaW.PrintMore Go.Proofs.YtifacclmfjmilaaW.Hand Go.Proofs.Ytifacclmfjmilaa.PZ
attribute [local go_sem] Oper.semAt_some max2_int min2_int max_two min_two
set_option linter.unusedVariables false
def proom (a0 a1 a2 a3 a4 a5 : Int) (ls : List S55) (roll : Int) : Int × Int := if pchk a0 a1 a2 a3 a4 a5 ls = true ∧ 0 ≤ roll ∧ roll ≤ 1099511627776 then (a2 + (if a4 < roll then a4 else roll), 0) else (0, 1)
theorem numsOk_of {a0 a1 a2 a3 a4 a5 : Int} {ls : List S55} (h : pchk a0 a1 a2 a3 a4 a5 ls = true) (i : Nat) (hi : i < 5) : 0 ≤ numOf a1 a2 a3 a4 a5 i ∧ numOf a1 a2 a3 a4 a5 i ≤ mostOf i := by
  unfold pchk at h
  rw [Bool.and_eq_true] at h
  have h1 := h.1
  unfold numsOk at h1
  rw [List.all_eq_true] at h1
  have h2 := h1 i (List.mem_range.2 hi)
  simpa [okNum] using h2
set_option maxRecDepth 100000 in
theorem plan_Room_go (a0 a1 a2 a3 a4 a5 : Int) (A : Option Addr) (c : Nat) (ls : List S55) (roll : Int) (w : World) (hC : Kd.C k55 w A ls.length ls) (hcap : ls.length ≤ c) :
    Calls Try.prog 18 #[.agg #[.int .u32 a0, .int .i64 a1, .int .i64 a2, .int .i64 a3, .int .i64 a4, .int .i64 a5, .slice A ls.length c], .int .i64 roll] w fun e w' => e = .returned (.tuple #[.int .i64 (proom a0 a1 a2 a3 a4 a5 ls roll).1, .int .i64 (proom a0 a1 a2 a3 a4 a5 ls roll).2]) ∧ Below w.heap.size w w' := by
  obtain ⟨W1, hW1⟩ : ∃ W, w.alloc (.cells #[.int .u32 a0, .int .i64 a1, .int .i64 a2, .int .i64 a3, .int .i64 a4, .int .i64 a5, .slice A ls.length c] 25) = W := ⟨_, rfl⟩
  have hB1 : Below w.heap.size w W1 := by rw [← hW1]; exact below_alloc (Below.refl _ _) _
  have hP1 : W1.heap[w.heap.size]? = some (Obj.cells #[.int .u32 a0, .int .i64 a1, .int .i64 a2, .int .i64 a3, .int .i64 a4, .int .i64 a5, .slice A ls.length c] 25 (0, 0)) := by rw [← hW1]; exact heap_alloc_new w _
  have kc := plan_Check_go a0 a1 a2 a3 a4 a5 A c ls W1 (Kd.C_below hC hB1) hcap
  obtain ⟨ok, hok⟩ : ∃ b, pchk a0 a1 a2 a3 a4 a5 ls = b := ⟨_, rfl⟩
  rw [hok] at kc
  unfold proom
  rw [hok]
  rw [← hW1] at kc
  have HNUM : Aside0 (ok = true → (0 ≤ a2 ∧ a2 ≤ 1099511627776) ∧ (0 ≤ a4 ∧ a4 ≤ 1099511627776)) := ⟨fun h => by
    rw [← hok] at h
    have := numsOk_of h
    exact ⟨this 1 (by decide), this 3 (by decide)⟩⟩
  have KC := Aside0.mk kc
  have HP1 := Aside0.mk hP1
  have HB1 := Aside0.mk hB1
  have HW1 := Aside0.mk hW1
  clear kc hP1 hB1 hok hC hcap hW1
  have hd : (ok = false) ∨ (ok = true ∧ decide (roll < 0) = true) ∨ (ok = true ∧ decide (roll < 0) = false ∧ decide (1099511627776 < roll) = true) ∨ (ok = true ∧ decide (roll < 0) = false ∧ decide (1099511627776 < roll) = false) := by
    cases ok <;> simp <;> omega
  rcases hd with rfl | ⟨rfl, d1⟩ | ⟨rfl, d1, d2⟩ | ⟨rfl, d1, d2⟩
  · rw [if_neg (by simp)]
    go_enter Try.func18, Try.ntmps18
    go_wp2_with (refine KC.out.mono ?_; rintro e w5 ⟨rfl, hb5⟩; have HB5 := Aside0.mk (below_step (below_alloc (Below.refl _ w) _) hb5); have e2 := (cell_of_row w5 w.heap.size 2 _ _ _ ((hb5.block _ (by simp)).trans (heap_alloc_new w _))).trans (rfl : _ = some (Value.int .i64 a2)); have e4 := (cell_of_row w5 w.heap.size 4 _ _ _ ((hb5.block _ (by simp)).trans (heap_alloc_new w _))).trans (rfl : _ = some (Value.int .i64 a4)); clear hb5 KC)
    exact bodyPost_ret (v := .tuple #[.int .i64 0, .int .i64 1]) (by simp [results, Try.results18, go_sem]) rfl ⟨rfl, HB5.out⟩
  · rw [if_neg (by rw [decide_eq_true_eq] at d1; omega)]
    go_enter Try.func18, Try.ntmps18
    go_wp2_with (refine KC.out.mono ?_; rintro e w5 ⟨rfl, hb5⟩; have HB5 := Aside0.mk (below_step (below_alloc (Below.refl _ w) _) hb5); have e2 := (cell_of_row w5 w.heap.size 2 _ _ _ ((hb5.block _ (by simp)).trans (heap_alloc_new w _))).trans (rfl : _ = some (Value.int .i64 a2)); have e4 := (cell_of_row w5 w.heap.size 4 _ _ _ ((hb5.block _ (by simp)).trans (heap_alloc_new w _))).trans (rfl : _ = some (Value.int .i64 a4)); clear hb5 KC)
    exact bodyPost_ret (v := .tuple #[.int .i64 0, .int .i64 1]) (by simp [results, Try.results18, go_sem]) rfl ⟨rfl, HB5.out⟩
  · rw [if_neg (by rw [decide_eq_true_eq] at d2; omega)]
    go_enter Try.func18, Try.ntmps18
    go_wp2_with (refine KC.out.mono ?_; rintro e w5 ⟨rfl, hb5⟩; have HB5 := Aside0.mk (below_step (below_alloc (Below.refl _ w) _) hb5); have e2 := (cell_of_row w5 w.heap.size 2 _ _ _ ((hb5.block _ (by simp)).trans (heap_alloc_new w _))).trans (rfl : _ = some (Value.int .i64 a2)); have e4 := (cell_of_row w5 w.heap.size 4 _ _ _ ((hb5.block _ (by simp)).trans (heap_alloc_new w _))).trans (rfl : _ = some (Value.int .i64 a4)); clear hb5 KC)
    exact bodyPost_ret (v := .tuple #[.int .i64 0, .int .i64 1]) (by simp [results, Try.results18, go_sem]) rfl ⟨rfl, HB5.out⟩
  · rw [if_pos ⟨rfl, by rw [decide_eq_false_iff_not] at d1; omega, by rw [decide_eq_false_iff_not] at d2; omega⟩]
    have hb : ∀ M : Int, 0 ≤ M → M ≤ 1099511627776 → wrap64 (a2 + M) = a2 + M := fun M h0 h1 => by
      have h := HNUM.out rfl
      exact wrap_i _ (by omega) (by omega)
    rw [decide_eq_false_iff_not] at d1 d2
    by_cases hlt : a4 < roll
    · rw [if_pos hlt]
      have HWR := Aside0.mk (hb a4 (by have := HNUM.out rfl; omega) (by have := HNUM.out rfl; omega))
      have e1 : decide (roll < 0) = false := decide_eq_false d1
      have e3 : decide (1099511627776 < roll) = false := decide_eq_false d2
      clear hb
      go_enter Try.func18, Try.ntmps18
      go_wp2_with (refine KC.out.mono ?_; rintro e w5 ⟨rfl, hb5⟩; have HB5 := Aside0.mk (below_step (below_alloc (Below.refl _ w) _) hb5); have e2 := (cell_of_row w5 w.heap.size 2 _ _ _ ((hb5.block _ (by simp)).trans (heap_alloc_new w _))).trans (rfl : _ = some (Value.int .i64 a2)); have e4 := (cell_of_row w5 w.heap.size 4 _ _ _ ((hb5.block _ (by simp)).trans (heap_alloc_new w _))).trans (rfl : _ = some (Value.int .i64 a4)); clear hb5 KC)
      all_goals first
        | (exfalso; omega)
        | exact bodyPost_ret (v := .tuple #[.int .i64 (a2 + a4), .int .i64 0]) (by simp [results, Try.results18, go_sem, HWR.out]) rfl ⟨rfl, HB5.out⟩
    · rw [if_neg hlt]
      have HWR := Aside0.mk (hb roll (by omega) (by omega))
      have e1 : decide (roll < 0) = false := decide_eq_false d1
      have e3 : decide (1099511627776 < roll) = false := decide_eq_false d2
      have HWR2 : Aside0 (a4 ≤ roll → wrap64 (a2 + a4) = a2 + roll) := ⟨fun h => by rw [show a4 = roll by omega]; exact HWR.out⟩
      clear hb
      go_enter Try.func18, Try.ntmps18
      go_wp2_with (refine KC.out.mono ?_; rintro e w5 ⟨rfl, hb5⟩; have HB5 := Aside0.mk (below_step (below_alloc (Below.refl _ w) _) hb5); have e2 := (cell_of_row w5 w.heap.size 2 _ _ _ ((hb5.block _ (by simp)).trans (heap_alloc_new w _))).trans (rfl : _ = some (Value.int .i64 a2)); have e4 := (cell_of_row w5 w.heap.size 4 _ _ _ ((hb5.block _ (by simp)).trans (heap_alloc_new w _))).trans (rfl : _ = some (Value.int .i64 a4)); clear hb5 KC)
      all_goals refine bodyPost_ret (v := .tuple #[.int .i64 (a2 + roll), .int .i64 0]) ?_ rfl ⟨rfl, HB5.out⟩
      · simp [results, Try.results18, go_sem, HWR.out]
      · have := HWR2.out (by omega)
        simp [results, Try.results18, go_sem, this]
end Go.Proofs.Ytifacclmfjmilaa.Ext
