/- MoneySums, walked. -/
import Derived.Test.YtdhiaagjbdbnhaaRef4
namespace Go.Proofs.Ytdhiaagjbdbnhaa.Ext
open Go.RowKit Go.Proofs.YtdhiaagjbdbnhaaW.PrintWords Go.Proofs.YtdhiaagjbdbnhaaW.PrintLast Go.Proofs.YtdhiaagjbdbnhaaW.PrintMore Go.Proofs.YtdhiaagjbdbnhaaW.Hand
set_option linter.unusedVariables false
theorem mul_hi (a b : Int) (ha : I64 a) (hb : I64 b) : a * b < 170141183460469231731687303715884105728 := by
  unfold I64 at ha hb
  rcases Int.le_total 0 a with h | h <;> rcases Int.le_total 0 b with k | k
  · have := Int.mul_le_mul (show a ≤ 9223372036854775808 by omega) (show b ≤ 9223372036854775808 by omega) k (by omega); omega
  · have := Int.mul_nonpos_of_nonneg_of_nonpos h k; omega
  · have := Int.mul_nonpos_of_nonpos_of_nonneg h k; omega
  · have := Int.mul_le_mul (show -a ≤ 9223372036854775808 by omega) (show -b ≤ 9223372036854775808 by omega) (by omega) (by omega)
    rw [Int.neg_mul_neg] at this; omega
theorem mul_lo (a b : Int) (ha : I64 a) (hb : I64 b) : -170141183460469231731687303715884105728 ≤ a * b := by
  unfold I64 at ha hb
  rcases Int.le_total 0 a with h | h <;> rcases Int.le_total 0 b with k | k
  · have := Int.mul_nonneg h k; omega
  · have := Int.mul_le_mul (show a ≤ 9223372036854775808 by omega) (show -b ≤ 9223372036854775808 by omega) (by omega) (by omega)
    rw [Int.mul_neg] at this; omega
  · have := Int.mul_le_mul (show -a ≤ 9223372036854775808 by omega) (show b ≤ 9223372036854775808 by omega) k (by omega)
    rw [Int.neg_mul] at this; omega
  · have := Int.mul_nonneg_of_nonpos_of_nonpos h k; omega
set_option maxRecDepth 100000 in
set_option maxHeartbeats 3200000 in
theorem MoneySums.go (a b : Int) (A : Option Addr) (c : Nat) (l : List Int) (w : World) (ha : I64 a) (hb : I64 b) (hr : Kd.C (Kd.int .i64) w A l.length l) (hc : l.length ≤ c) (hl : ∀ x ∈ l, I64 x) :
    Calls Try.prog 3 #[.int .i64 a, .int .i64 b, .slice A l.length c] w fun e w' => e = .returned (.bool true) ∧ Below w.heap.size w w' := by
  have HR := Aside0.mk hr
  clear hr
  by_cases h1 : (100 : Int) < l.length
  · go_enter Try.func3, Try.ntmps3
    go_wp2_with fail
    go_ret
    exact ⟨rfl, Below.refl _ _⟩
  obtain ⟨x1, x2, hx⟩ : ∃ x1 x2, small (a + b) = (x1, x2) := ⟨_, _, rfl⟩
  obtain ⟨z1, z2, hz⟩ : ∃ z1 z2, small (a * b) = (z1, z2) := ⟨_, _, rfl⟩
  obtain ⟨s1, s2, hs⟩ : ∃ s1 s2, small l.sum = (s1, s2) := ⟨_, _, rfl⟩
  have i2 : ∀ x ∈ [a, b], I64 x := fun x hx => by simp at hx; rcases hx with rfl | rfl <;> assumption
  have k1 := Aside0.mk (fun w => money_Add.calls a b x1 x2 w (by rw [Add_small a b ha hb, hx]))
  have k2 := Aside0.mk (fun A w h => quitrentref10_Sum.calls A 2 [a, b] x1 x2 w h (Nat.le_refl 2) (by unfold quitrentref10_Sum.f money_Sum.f; rw [if_pos ⟨i2, by simp⟩]; simp [hx]))
  have k3 := Aside0.mk (fun w => money_Mul.calls a b z1 z2 w (by rw [Mul_small a b ha hb, hz]))
  have k4 := Aside0.mk (fun w => refOf a ha w)
  have k5 := Aside0.mk (fun w => refOf b hb w)
  have k6 := Aside0.mk (fun w => refMul a b w)
  have k7 := Aside0.mk (fun w => refSmall (a * b) w)
  have k8 := Aside0.mk (fun w h => money_Sum.calls A c l s1 s2 w h hc (by unfold money_Sum.f; rw [if_pos ⟨hl, by omega⟩, hs]))
  have k9 := Aside0.mk (fun w h => quitrentref10_Sum.calls A c l s1 s2 w h hc (by unfold quitrentref10_Sum.f money_Sum.f; rw [if_pos ⟨hl, by omega⟩, hs]))
  have hm := small_mod (a * b) (mul_lo a b ha hb) (mul_hi a b ha hb)
  obtain ⟨r, hr⟩ : ∃ r : Bool, r = decide ((a * b - wrap64 (a * b)) % 340282366920938463463374607431768211456 = 0) := ⟨_, rfl⟩
  have k7' : Aside0 (∀ w, Calls Try.prog 13 #[bigV (a * b)] w fun e w' => e = .returned (.tuple #[.int .i64 z1, .bool r]) ∧ Below w.heap.size w w') := ⟨fun w => by
    have := k7.out w
    rw [hz] at hm
    simp only [Prod.mk.injEq] at hm
    rw [hr, hm.1]
    exact this⟩
  have hz2 : z2 = if r then 0 else 30 := by
    rw [hz] at hm
    simp only [Prod.mk.injEq] at hm
    rw [hm.2, hr]
    simp only [decide_eq_true_eq]
  obtain ⟨P, hP⟩ : ∃ P, bigV (a * b) = P := ⟨_, rfl⟩
  obtain ⟨X, hX⟩ : ∃ P, bigV a = P := ⟨_, rfl⟩
  obtain ⟨Y, hY⟩ : ∃ P, bigV b = P := ⟨_, rfl⟩
  rw [hP] at k6 k7'
  rw [hX] at k4 k6
  rw [hY] at k5 k6
  have hg := Aside0.mk (fun w => quitrentlaw10_goes.calls true w goes_true)
  clear hP hX hY k7 hm hr hx hz hs i2 ha hb hl
  subst hz2
  cases r
  · go_enter Try.func3, Try.ntmps3
    go_wp2_with fail
    refine (k1.out _).mono ?_
    rintro e w1 ⟨rfl, hbl⟩
    have B1 := Aside0.mk hbl
    clear hbl
    go_wp2_with fail
    refine (k2.out _ _ (C_block (xs := [a, b]) (heap_new _ _) rfl (by simp))).mono ?_
    rintro e w2 ⟨rfl, hbl⟩
    have B2 := Aside0.mk (below_step (below_alloc B1.out _) hbl)
    clear hbl B1
    go_wp2_with fail
    refine (k3.out _).mono ?_
    rintro e w3 ⟨rfl, hd⟩
    have B3 := Aside0.mk (below_step B2.out hd.below)
    clear hd B2
    go_wp2_with fail
    refine (k4.out _).mono ?_
    rintro e w4 ⟨rfl, hbl⟩
    have B4 := Aside0.mk (below_step B3.out hbl)
    clear hbl B3
    go_wp2_with fail
    refine (k5.out _).mono ?_
    rintro e w5 ⟨rfl, hbl⟩
    have B5 := Aside0.mk (below_step B4.out hbl)
    clear hbl B4
    go_wp2_with fail
    refine (k6.out _).mono ?_
    rintro e w6 ⟨rfl, hbl⟩
    have B6 := Aside0.mk (below_step B5.out hbl)
    clear hbl B5
    go_wp2_with fail
    refine (k7'.out _).mono ?_
    rintro e w7 ⟨rfl, hbl⟩
    have B7 := Aside0.mk (below_step B6.out hbl)
    clear hbl B6
    go_wp2_with fail
    refine (k8.out _ (Kd.C_below HR.out B7.out)).mono ?_
    rintro e w8 ⟨rfl, hd⟩
    have B8 := Aside0.mk (below_step B7.out hd.below)
    clear hd B7
    go_wp2_with fail
    refine (k9.out _ (Kd.C_below HR.out B8.out)).mono ?_
    rintro e w9 ⟨rfl, hbl⟩
    have B9 := Aside0.mk (below_step B8.out hbl)
    clear hbl B8
    go_wp2_with fail
    refine (hg.out _).mono ?_
    rintro e w10 ⟨rfl, hbl⟩
    have B10 := Aside0.mk (below_step B9.out hbl)
    clear hbl B9
    go_wp2_with fail
    go_ret
    exact ⟨rfl, B10.out⟩
  · go_enter Try.func3, Try.ntmps3
    go_wp2_with fail
    refine (k1.out _).mono ?_
    rintro e w1 ⟨rfl, hbl⟩
    have B1 := Aside0.mk hbl
    clear hbl
    go_wp2_with fail
    refine (k2.out _ _ (C_block (xs := [a, b]) (heap_new _ _) rfl (by simp))).mono ?_
    rintro e w2 ⟨rfl, hbl⟩
    have B2 := Aside0.mk (below_step (below_alloc B1.out _) hbl)
    clear hbl B1
    go_wp2_with fail
    refine (k3.out _).mono ?_
    rintro e w3 ⟨rfl, hd⟩
    have B3 := Aside0.mk (below_step B2.out hd.below)
    clear hd B2
    go_wp2_with fail
    refine (k4.out _).mono ?_
    rintro e w4 ⟨rfl, hbl⟩
    have B4 := Aside0.mk (below_step B3.out hbl)
    clear hbl B3
    go_wp2_with fail
    refine (k5.out _).mono ?_
    rintro e w5 ⟨rfl, hbl⟩
    have B5 := Aside0.mk (below_step B4.out hbl)
    clear hbl B4
    go_wp2_with fail
    refine (k6.out _).mono ?_
    rintro e w6 ⟨rfl, hbl⟩
    have B6 := Aside0.mk (below_step B5.out hbl)
    clear hbl B5
    go_wp2_with fail
    refine (k7'.out _).mono ?_
    rintro e w7 ⟨rfl, hbl⟩
    have B7 := Aside0.mk (below_step B6.out hbl)
    clear hbl B6
    go_wp2_with fail
    refine (k8.out _ (Kd.C_below HR.out B7.out)).mono ?_
    rintro e w8 ⟨rfl, hd⟩
    have B8 := Aside0.mk (below_step B7.out hd.below)
    clear hd B7
    go_wp2_with fail
    refine (k9.out _ (Kd.C_below HR.out B8.out)).mono ?_
    rintro e w9 ⟨rfl, hbl⟩
    have B9 := Aside0.mk (below_step B8.out hbl)
    clear hbl B8
    go_wp2_with fail
    refine (hg.out _).mono ?_
    rintro e w10 ⟨rfl, hbl⟩
    have B10 := Aside0.mk (below_step B9.out hbl)
    clear hbl B9
    go_wp2_with fail
    go_ret
    exact ⟨rfl, B10.out⟩
theorem MoneySums.walk (a0 a1 : Int) (a2 : Option Addr) (len2 cap2 : Nat) (z2 : List Int) (w : World) (w0 : (Lit.int .i64 a0).wf = true) (w1 : (Lit.int .i64 a1).wf = true)
    (w2 : (a2 = none ∧ len2 = 0 ∧ cap2 = 0 ∧ z2 = []) ∨ ∃ x, a2 = some x ∧ len2 ≤ cap2 ∧ cap2 ≤ maxLen ∧ z2.length = cap2 ∧ (∀ i, i < z2.length → w.cell? (x.add i) = some (.int .i64 (z2.getD i 0))) ∧ ∀ n ∈ z2, (Lit.int .i64 n).wf = true) (y2 : len2 * 8 ≤ 140737488351232) :
    Calls Try.prog 3 #[.int .i64 a0, .int .i64 a1, .slice a2 len2 cap2] w fun e w' => e = .returned (.bool true) ∧ Below w.heap.size w w' := by
  obtain ⟨l0, rfl, hr0, hm0, hw0, hc0⟩ := ReadsInt.ofRowC w2
  exact MoneySums.go a0 a1 a2 cap2 l0 w (wf_i64 a0 w0) (wf_i64 a1 w1) (Kd.C_of_reads (d := (0 : Int)) (h1 := fun _ => rfl) hr0) hc0 (fun x hx => wf_i64 x (hw0 x hx))
end Go.Proofs.Ytdhiaagjbdbnhaa.Ext
