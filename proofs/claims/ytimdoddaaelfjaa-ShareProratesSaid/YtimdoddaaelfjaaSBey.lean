/- Is one of these below nought, or above an end? The walk. Numbers compared. -/
import Derived.Test.YtimdoddaaelfjaaSStab
import Derived.Test.YtimdoddaaelfjaaRef4
namespace Go.Proofs.Ytimdoddaaelfjaa.Ext
open Go.RowKit Go.Proofs.YtimdoddaaelfjaaW.PrintWords Go.Proofs.YtimdoddaaelfjaaW.PrintLast Go.Proofs.YtimdoddaaelfjaaW.PrintMore Go.Proofs.YtimdoddaaelfjaaW.Hand
set_option linter.unusedVariables false
def outOf (e x : Int) : Bool := decide (x < 0) || decide (e < x)
def beyondB (e : Int) (l : List Int) : Bool := l.any (outOf e)
theorem beyondB_take {e : Int} {l : List Int} {j : Nat} (h : j < l.length) : beyondB e (l.take (j + 1)) = (beyondB e (l.take j) || outOf e (rd l j)) := by
  unfold beyondB
  rw [take_one l 0 j h, List.any_append]
  simp [rd]
theorem beyondB_at {e : Int} {l : List Int} {j : Nat} (h : j < l.length) (hx : outOf e (rd l j) = true) : beyondB e l = true := by
  unfold beyondB
  rw [List.any_eq_true]
  exact ⟨_, rd_mem l j h, hx⟩
set_option maxRecDepth 100000 in
set_option maxHeartbeats 1600000 in
theorem outOf_calls {gb : Nat} (e x : Int) (w : World) (h : w.cell? ⟨gb, 0, none⟩ = some (.int .i64 e)) :
    Calls Try.prog 28 #[.int .i64 x, .pointer (some ⟨gb, 0, none⟩)] w fun r w' => r = .returned (.bool (outOf e x)) ∧ w' = w := by
  by_cases c1 : x < 0
  · have hv : outOf e x = true := by unfold outOf; rw [decide_eq_true c1]; rfl
    rw [hv]
    go_enter Try.func28, Try.ntmps28
    go_wp2_with fail
    go_ret
    exact ⟨rfl, rfl⟩
  · by_cases c2 : e < x
    · have hv : outOf e x = true := by unfold outOf; rw [decide_eq_true c2]; simp
      rw [hv]
      go_enter Try.func28, Try.ntmps28
      go_wp2_with fail
      go_ret
      exact ⟨rfl, rfl⟩
    · have hv : outOf e x = false := by unfold outOf; rw [decide_eq_false c1, decide_eq_false c2]; rfl
      rw [hv]
      go_enter Try.func28, Try.ntmps28
      go_wp2_with fail
      go_ret
      exact ⟨rfl, rfl⟩
set_option maxRecDepth 100000 in
set_option maxHeartbeats 1600000 in
theorem index_calls {gb c n : Nat} (e : Int) (A : Option Addr) (l : List Int) (hn : l.length = n) (w : World) (h : w.cell? ⟨gb, 0, none⟩ = some (.int .i64 e)) (hr : Kd.C (Kd.int .i64) w A n l) (hm : n ≤ 9223372036854775807) :
    Calls Try.prog 34 #[.slice A n c, .func (.func 28) #[] #[.pointer (some ⟨gb, 0, none⟩)]] w fun r w' => (∃ i : Int, r = .returned (.int .i64 i) ∧ decide (0 ≤ i) = beyondB e l) ∧ w' = w := by
  subst hn
  have HR := Aside0.mk hr
  clear hr
  have k1 := Aside0.mk (fun x => outOf_calls e x w h)
  go_enter Try.func34, Try.ntmps34
  go_wp2
  go_loopw [8] (fun i wr => ∃ j : Nat, j ≤ l.length ∧ i = .int .i64 j ∧ Aside0 (beyondB e (l.take j) = false) ∧ wr = w) (fun i _ => l.length - (intOf i).toNat)
  case atStart => exact ⟨0, by omega, rfl, ⟨rfl⟩, rfl⟩
  case round =>
    obtain ⟨j, hj, rfl, HB, rfl⟩ := hrel
    by_cases hlt : j < l.length
    · obtain ⟨ad, e1, hx⟩ := Kd.at_int HR.out j (by omega) (by omega)
      cases e1
      simp only [Int.toNat_natCast] at hx
      obtain ⟨b, hb⟩ : ∃ b, outOf e (rd l j) = b := ⟨_, rfl⟩
      have k2 := k1.out (rd l j)
      rw [hb] at k2
      have K2 := Aside0.mk k2
      have HBB := Aside0.mk hb
      clear k1 k2 hb
      generalize rd l j = x at hx K2
      cases b with
      | true =>
        go_wp2_with (go_at_call 28; refine K2.out.mono ?_; rintro e0 w1 ⟨rfl, rfl⟩)
        go_ret
        exact ⟨⟨_, rfl, by rw [beyondB_at hlt HBB.out]; exact decide_eq_true (by omega)⟩, rfl⟩
      | false =>
        go_wp2_with (go_at_call 28; refine K2.out.mono ?_; rintro e0 w1 ⟨rfl, rfl⟩)
        go_roundw
        case rel => exact ⟨j + 1, by omega, by go_num, ⟨by rw [beyondB_take hlt, HB.out, HBB.out]; rfl⟩, by trivial⟩
        case measure => simp [intOf]; omega
    · obtain rfl : j = l.length := by omega
      have hb := HB.out
      rw [List.take_length] at hb
      go_wp2_with fail
      go_ret
      exact ⟨⟨_, rfl, by rw [hb]; rfl⟩, rfl⟩
set_option maxRecDepth 100000 in
theorem contains_calls {gb c n : Nat} (e : Int) (A : Option Addr) (l : List Int) (hn : l.length = n) (w : World) (h : w.cell? ⟨gb, 0, none⟩ = some (.int .i64 e)) (hr : Kd.C (Kd.int .i64) w A n l) (hm : n ≤ 9223372036854775807) :
    Calls Try.prog 27 #[.slice A n c, .func (.func 28) #[] #[.pointer (some ⟨gb, 0, none⟩)]] w fun r w' => r = .returned (.bool (beyondB e l)) ∧ w' = w := by
  have k1 := Aside0.mk (index_calls (c := c) e A l hn w h hr hm)
  clear hr h
  go_enter Try.func27, Try.ntmps27
  obtain ⟨b, hb⟩ : ∃ b, beyondB e l = b := ⟨_, rfl⟩
  rw [hb] at k1 ⊢
  clear hb
  go_wp2_with (go_at_call 34; refine k1.out.mono ?_; rintro e0 w1 ⟨⟨i, rfl, hi⟩, rfl⟩)
  go_ret
  exact ⟨rfl, rfl⟩
set_option maxRecDepth 100000 in
theorem beyond_calls {c n : Nat} (e : Int) (A : Option Addr) (l : List Int) (hn : l.length = n) (w : World) (hr : Kd.C (Kd.int .i64) w A n l) (hm : n ≤ 9223372036854775807) :
    Calls Try.prog 16 #[.int .i64 e, .slice A n c] w fun r w' => r = .returned (.bool (beyondB e l)) ∧ Below w.heap.size w w' := by
  have k1 := Aside0.mk (contains_calls (c := c) (gb := w.heap.size) e A l hn (w.alloc (.cells #[.int .i64 e] 2)) ((Blk.new_ (W := w)).cell 0) (Kd.C_below hr (below_alloc (Below.refl _ _) _)) hm)
  clear hr
  go_enter Try.func16, Try.ntmps16
  go_wp2_with (go_at_call 27; refine k1.out.mono ?_; rintro e0 w1 ⟨rfl, rfl⟩)
  go_ret
  exact ⟨rfl, below_alloc (Below.refl _ _) _⟩
set_option maxRecDepth 100000 in
set_option maxHeartbeats 1600000 in
theorem numbers_calls {c1 c2 n1 n2 : Nat} (A B : Option Addr) (l k : List Int) (hn : l.length = n1) (hn2 : k.length = n2) (w : World) (hr : Kd.C (Kd.int .i64) w A n1 l) (hr2 : Kd.C (Kd.int .i64) w B n2 k) (hm : n1 ≤ 9223372036854775807) :
    Calls Try.prog 10 #[.slice A n1 c1, .slice B n2 c2] w fun r w' => r = .returned (.bool (decide (l = k))) ∧ ∃ q, w' = w.drewN q := by
  subst hn; subst hn2
  have HR := Aside0.mk hr
  have HR2 := Aside0.mk hr2
  clear hr hr2
  go_enter Try.func10, Try.ntmps10
  by_cases hne : l.length = k.length
  · have hb : (((l.length : Int)) == ((k.length : Nat) : Int)) = true := by rw [beq_iff_eq]; omega
    go_wp2
    go_loopw [5] (fun i wr => ∃ j q : Nat, j ≤ l.length ∧ i = .int .i64 j ∧ Aside0 (l.take j = k.take j) ∧ wr = w.drewN q) (fun i _ => l.length - (intOf i).toNat)
    case atStart => exact ⟨0, 0, by omega, rfl, ⟨rfl⟩, rfl⟩
    case round =>
      obtain ⟨j, q, hj, rfl, HB, hwr⟩ := hrel
      have HW := Aside0.mk hwr
      by_cases hlt : j < l.length
      · have hlt2 : (j : Int) < (l.length : Int) := by omega
        have HN := Aside0.mk hne
        have hlk : (j : Int) < (k.length : Int) := by omega
        have hr3 := Kd.C_below HR.out (w1 := wr) (by rw [hwr]; exact pw_below_drewN (Below.refl _ _) q)
        have hr4 := Kd.C_below HR2.out (w1 := wr) (by rw [hwr]; exact pw_below_drewN (Below.refl _ _) q)
        obtain ⟨ad, e1, hx⟩ := Kd.at_int hr3 j (by omega) (by omega)
        obtain ⟨ad2, e2, hy⟩ := Kd.at_int hr4 j (by omega) (by omega)
        cases e1
        cases e2
        simp only [Int.toNat_natCast] at hx hy
        obtain ⟨x, hx0⟩ : ∃ x, x = rd l j := ⟨_, rfl⟩
        obtain ⟨y, hy0⟩ : ∃ y, y = rd k j := ⟨_, rfl⟩
        rw [← hx0] at hx
        rw [← hy0] at hy
        have HX := Aside0.mk hx0
        have HY := Aside0.mk hy0
        clear hx0 hy0 hr3 hr4 hne hwr
        by_cases hxy : x = y
        · have hq : (x == y) = true := by rw [beq_iff_eq]; exact hxy
          have HXY := Aside0.mk hxy
          clear hxy
          go_wp2_with fail
          go_quiet (fail)
          go_wp2_with fail
          go_roundw
          case rel =>
            have e5 := HN.out
            refine ⟨j + 1, q + nq, by omega, by go_num, ⟨?_⟩, by rw [HW.out, World.drewN_drewN]⟩
            rw [take_one l 0 j hlt, take_one k 0 j (by omega), HB.out]
            have := HXY.out
            rw [HX.out, HY.out] at this
            unfold rd at this
            simp only [Int.toNat_natCast] at this
            rw [this]
          case measure => simp [intOf]; omega
        · have hq : (x == y) = false := by rw [beq_eq_false_iff_ne]; exact hxy
          have HXY := Aside0.mk hxy
          clear hxy
          go_wp2_with fail
          go_quiet (fail)
          go_wp2_with fail
          go_ret
          refine ⟨?_, q + nq, by rw [HW.out, World.drewN_drewN]⟩
          have hd : decide (l = k) = false := decide_eq_false (fun e => HXY.out (by rw [HX.out, HY.out, e]))
          rw [hd]; rfl
      · obtain rfl : j = l.length := by omega
        have hb2 := HB.out
        rw [List.take_length, hne, List.take_length] at hb2
        have HH := Aside0.mk hb2
        clear hb2 hwr
        go_wp2_with fail
        go_ret
        exact ⟨by rw [HH.out]; simp, q, HW.out⟩
  · have hb : (((l.length : Int)) == ((k.length : Nat) : Int)) = false := by rw [beq_eq_false_iff_ne]; omega
    have HN := Aside0.mk hne
    clear hne
    go_wp2_with fail
    go_ret
    have hd : decide (l = k) = false := decide_eq_false (fun e => HN.out (by rw [e]))
    exact ⟨by rw [hd]; rfl, 0, rfl⟩
end Go.Proofs.Ytimdoddaaelfjaa.Ext
