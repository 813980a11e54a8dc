/- quitrentlaw13.goes, proved by walking its code. -/
import Derived.Test.YtifacclmfjmilaaGet1
import Derived.Test.YtifacclmfjmilaaPPut2
import Derived.Test.YtifacclmfjmilaaRoom
import Derived.Test.YtifacclmfjmilaaCut2
import Derived.Deep.RegionHeld3
namespace Go.Proofs.Ytifacclmfjmilaa.Ext
open Go.RowKit Go.Shelf Go.Proofs.YtifacclmfjmilaaW.PrintWords Go.Proofs.YtifacclmfjmilaaW.PrintLast Go.Proofs.YtifacclmfjmilaaW.PrintMore Go.Proofs.YtifacclmfjmilaaW.Hand Go.Proofs.Ytifacclmfjmilaa.PZ
set_option linter.unusedVariables false
abbrev knownT : List S55 := [⟨0, 3⟩]
abbrev knownB : List Int := bytes8 (planNums 7 10 100 5 20 1000 knownT)
theorem known_put : pput 7 10 100 5 20 1000 knownT = (knownB, 0) := by kernel_rfl
theorem known_get : pget knownB = (7, 10, 100, 5, 20, 1000, knownT, 0) := by kernel_rfl
theorem known_room : proom 7 10 100 5 20 1000 knownT 30 = (120, 0) := by kernel_rfl
theorem known_same : p_quitrentref13_Same.f 4 7 10 100 5 20 1000 knownT 7 10 100 5 20 1000 knownT = some true := by kernel_rfl
theorem known_carry : p_plan_Carry.f 7 10 100 5 20 1000 knownT 70 = some 30 := by kernel_rfl
theorem known_bad : pchk 7 0 0 0 0 0 [] = false := by kernel_rfl
theorem known_bytes : ∀ x ∈ knownB, IsByte x := by
  have h : knownB.all (fun x => decide (0 ≤ x) && decide (x < 256)) = true := by kernel_rfl
  intro x hx
  have := List.all_eq_true.1 h x hx
  simpa [IsByte] using this
theorem known_len : knownB.length = 72 := by kernel_rfl
def GH (w : World) (b : Nat) (A3 : Option Addr) (c3 : Nat) (W : World) : Prop := Below w.heap.size w W ∧ W.heap[b]? = some (Obj.cells #[.int .u32 7, .int .i64 10, .int .i64 100, .int .i64 5, .int .i64 20, .int .i64 1000, .slice A3 1 c3] 25 (0, 0)) ∧ Kd.C k55 W A3 knownT.length knownT
theorem GH.step {w W W' : World} {b : Nat} {A3 : Option Addr} {c3 : Nat} (h : GH w b A3 c3 W) (hb : Below W.heap.size W W') : GH w b A3 c3 W' :=
  ⟨below_step h.1 hb, (hb.block b (Array.getElem?_eq_some_iff.1 h.2.1).1).trans h.2.1, Kd.C_below h.2.2 hb⟩
theorem GH.all {w W : World} {b : Nat} {A3 : Option Addr} {c3 : Nat} (h : GH w b A3 c3 W) : W.cell? ⟨b, 0, none⟩ = some (.int .u32 7) ∧ W.cell? ⟨b, 1, none⟩ = some (.int .i64 10) ∧ W.cell? ⟨b, 2, none⟩ = some (.int .i64 100) ∧ W.cell? ⟨b, 3, none⟩ = some (.int .i64 5) ∧ W.cell? ⟨b, 4, none⟩ = some (.int .i64 20) ∧ W.cell? ⟨b, 5, none⟩ = some (.int .i64 1000) ∧ W.cell? ⟨b, 6, none⟩ = some (.slice A3 1 c3) ∧ GH w b A3 c3 W :=
  ⟨(cell_of_row W b 0 _ _ _ h.2.1).trans rfl, (cell_of_row W b 1 _ _ _ h.2.1).trans rfl, (cell_of_row W b 2 _ _ _ h.2.1).trans rfl, (cell_of_row W b 3 _ _ _ h.2.1).trans rfl, (cell_of_row W b 4 _ _ _ h.2.1).trans rfl, (cell_of_row W b 5 _ _ _ h.2.1).trans rfl, (cell_of_row W b 6 _ _ _ h.2.1).trans rfl, h⟩
theorem same_known (A3 A6 : Option Addr) (c3 c6 : Nat) (w : World) (h3 : Kd.C k55 w A3 knownT.length knownT) (l3 : knownT.length ≤ c3) (h6 : Kd.C k55 w A6 knownT.length knownT) (l6 : knownT.length ≤ c6) :
    Calls Try.prog 16 #[.agg #[.int .u32 7, .int .i64 10, .int .i64 100, .int .i64 5, .int .i64 20, .int .i64 1000, .slice A3 1 c3], .agg #[.int .u32 7, .int .i64 10, .int .i64 100, .int .i64 5, .int .i64 20, .int .i64 1000, .slice A6 1 c6]] w fun e w' => e = .returned (.bool true) ∧ Below w.heap.size w w' := p_quitrentref13_Same.calls 4 7 10 100 5 20 1000 A3 c3 knownT 7 10 100 5 20 1000 A6 c6 knownT true w h3 l3 h6 l6 known_same
theorem carry_known (A3 : Option Addr) (c3 : Nat) (w : World) (h3 : Kd.C k55 w A3 knownT.length knownT) (l3 : knownT.length ≤ c3) :
    Calls Try.prog 17 #[.agg #[.int .u32 7, .int .i64 10, .int .i64 100, .int .i64 5, .int .i64 20, .int .i64 1000, .slice A3 1 c3], .int .i64 70] w fun e w' => e = .returned (.int .i64 30) ∧ Below w.heap.size w w' := p_plan_Carry.calls 7 10 100 5 20 1000 A3 c3 knownT 70 30 w h3 l3 known_carry
theorem check_bad (w : World) :
    Calls Try.prog 11 #[.agg #[.int .u32 7, .int .i64 0, .int .i64 0, .int .i64 0, .int .i64 0, .int .i64 0, .slice none 0 0]] w fun e w' => e = .returned (.bool false) ∧ Below w.heap.size w w' := by
  have h := plan_Check_go 7 0 0 0 0 0 none 0 [] w (Kd.C_nil _ _) (Nat.le_refl _)
  rw [known_bad] at h
  exact h
set_option maxRecDepth 100000 in
set_option maxHeartbeats 1600000 in
theorem goes_true (w : World) : Calls Try.prog 12 #[] w fun e w' => e = .returned (.bool true) ∧ Below w.heap.size w w' := by
  go_enter Try.func12, Try.ntmps12
  go_wp2_with fail
  refine (p_quitrentlaw13_known.calls 7 10 100 5 20 1000 knownT _ rfl).mono ?_
  rintro e w1 ⟨v1, rfl, hr1, hb1⟩
  obtain ⟨A1, c1, ev⟩ := Kd.R_slice hr1
  subst ev
  have hrd := Kd.R_reads' hr1
  have kp := Aside0.mk (plan_Put_go 7 10 100 5 20 1000 A1 c1 knownT w1 hrd.2.2 hrd.2.1)
  rw [known_put] at kp
  have HB := Aside0.mk hb1
  clear hrd hr1 hb1
  go_wp2_with fail
  refine kp.out.mono ?_
  rintro e w2 ⟨v2, rfl, hr2, hb2⟩
  obtain ⟨A2, c2, ev⟩ := Kd.R_slice hr2
  subst ev
  have hrd := Kd.R_reads' hr2
  have kg := Aside0.mk (plan_Get_go A2 c2 knownB w2 hrd.2.2 known_bytes (by rw [known_len]; decide))
  rw [known_get] at kg
  have hl : ((knownB, (0 : Int)).1).length = 72 := known_len
  rw [hl]
  rw [known_len] at kg
  have HB2 := Aside0.mk (below_step HB.out hb2)
  clear hrd hr2 hb2 kp HB hl
  go_wp2_with fail
  refine kg.out.mono ?_
  rintro e w3 ⟨v3, rfl, hr3, hb3⟩
  have hr3 : Kd.R k55 55 w3 w2.heap.size (fun _ => True) v3 knownT := hr3
  obtain ⟨A3, c3, ev⟩ := Kd.R_slice hr3
  subst ev
  have hrd := Kd.R_reads' hr3
  have HB3 := Aside0.mk (below_step HB2.out hb3)
  have HC3 := Aside0.mk hrd.2.2
  have HL3 := Aside0.mk hrd.2.1
  clear hrd hr3 hb3 kg HB2
  go_wp2_with fail
  have hP := heap_alloc_new w3 (Obj.cells #[.int .u32 7, .int .i64 10, .int .i64 100, .int .i64 5, .int .i64 20, .int .i64 1000, .slice A3 1 c3] 25)
  have hB4 := below_alloc (Below.refl w3.heap.size w3) (Obj.cells #[.int .u32 7, .int .i64 10, .int .i64 100, .int .i64 5, .int .i64 20, .int .i64 1000, .slice A3 1 c3] 25)
  have hC4 := Kd.C_below HC3.out hB4
  have hB4w := below_step HB3.out hB4
  obtain ⟨b, hb⟩ : ∃ b, w3.heap.size = b := ⟨_, rfl⟩
  have hbw : w.heap.size ≤ b := by rw [← hb]; exact HB3.out.size
  rw [hb] at hP ⊢
  obtain ⟨w4, hw4⟩ : ∃ W, w3.alloc (Obj.cells #[.int .u32 7, .int .i64 10, .int .i64 100, .int .i64 5, .int .i64 20, .int .i64 1000, .slice A3 1 c3] 25) = W := ⟨_, rfl⟩
  rw [hw4] at hP hC4 hB4w ⊢
  clear hr3 hB4 hw4 HC3 HB3 hb
  refine (plan_Room_go 7 10 100 5 20 1000 A3 c3 knownT 30 w4 hC4 HL3.out).mono ?_
  rw [known_room]
  rintro e w5 ⟨rfl, hb5⟩
  have hP5 := (hb5.block b (Array.getElem?_eq_some_iff.1 hP).1).trans hP
  have K5 : Aside0 (GH w b A3 c3 w5) := ⟨⟨below_step hB4w hb5, hP5, Kd.C_below hC4 hb5⟩⟩
  have K5d := Aside0.mk (K5.out.step (below_drew (Below.refl w5.heap.size w5)))
  clear hP hC4 hb5 hB4w hP5
  go_wp2_with fail
  refine wp_region_noPanic ?_
  go_region_held (fun w' => w'.cell? ⟨b, 0, none⟩ = some (.int .u32 7) ∧ w'.cell? ⟨b, 1, none⟩ = some (.int .i64 10) ∧ w'.cell? ⟨b, 2, none⟩ = some (.int .i64 100) ∧ w'.cell? ⟨b, 3, none⟩ = some (.int .i64 5) ∧ w'.cell? ⟨b, 4, none⟩ = some (.int .i64 20) ∧ w'.cell? ⟨b, 5, none⟩ = some (.int .i64 1000) ∧ w'.cell? ⟨b, 6, none⟩ = some (.slice A3 1 c3) ∧ GH w b A3 c3 w') (first | exact K5d.out.all | exact K6.out.all | exact K7.out.all | exact K8.out.all | exact K9.out.all) (first
    | (go_at_call 19; (with_reducible refine (p_quitrentlaw13_known.calls 7 10 100 5 20 1000 knownT _ rfl).mono ?_); rintro e w6 ⟨v6, rfl, hr6, hb6⟩; obtain ⟨A6, c6, ev⟩ := Kd.R_slice hr6; subst ev; (have K6 := Aside0.mk (K5d.out.step hb6)); (have C6 := Aside0.mk K6.out.2.2); (have R6a := Aside0.mk (Kd.R_reads' hr6).2.2); (have R6b := Aside0.mk (Kd.R_reads' hr6).2.1); clear hr6 hb6)
    | (go_at_call 16; (with_reducible refine (same_known A3 A6 c3 c6 w6 C6.out HL3.out R6a.out R6b.out).mono ?_); rintro e w7 ⟨rfl, hb7⟩; (have K7 := Aside0.mk (K6.out.step hb7)); (have C7 := Aside0.mk K7.out.2.2); clear hb7)
    | (go_at_call 17; (with_reducible refine (carry_known A3 c3 w7 C7.out HL3.out).mono ?_); rintro e w8 ⟨rfl, hb8⟩; (have K8 := Aside0.mk (K7.out.step hb8)); clear hb8)
    | (go_at_call 11; (with_reducible refine (check_bad w8).mono ?_); rintro e w9 ⟨rfl, hb9⟩; (have K9 := Aside0.mk (K8.out.step hb9)); clear hb9))
  all_goals
    refine NoPanic.normal ?_
    go_wp2_with fail
    go_ret
    exact ⟨rfl, K9.out.1⟩
end Go.Proofs.Ytifacclmfjmilaa.Ext
