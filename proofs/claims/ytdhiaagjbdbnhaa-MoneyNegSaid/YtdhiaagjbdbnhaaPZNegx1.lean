-- Written by wip/print2.sh of this repo (a patched copy of the kit's print, with contracts proved by hand).
import Derived.Test.YtdhiaagjbdbnhaaPZNegx0
import Derived.Test.YtdhiaagjbdbnhaaPart
namespace Go.Proofs.Ytdhiaagjbdbnhaa.PZNeg
open Go.RowKit Go.Proofs.YtdhiaagjbdbnhaaW.PrintWords Go.Proofs.YtdhiaagjbdbnhaaW.PrintLast Go.Proofs.YtdhiaagjbdbnhaaW.PrintMore
attribute [local go_sem] max2_int min2_int max_two min_two max_three min_three max_four min_four   -- for this text's walks alone
set_option linter.unusedVariables false
set_option linter.unusedSimpArgs false

open Go.Proofs.Ytdhiaagjbdbnhaa.Ext
/-! ### quitrentlaw10_MoneyNeg: function 8 -/
def quitrentlaw10_MoneyNeg.j0 : Nat → Int → Int → Int → Int → Bool → Option (Bool)
  | 0, _, _, _, _, _ => none
  | k + 1, x0, x1, x5, x6, x32 => if x32 = true then (some false) else (if x6 = 0 then ((money_Add.f x5 (wrap64 (-x1))).bind fun bt106 => (if bt106.1 = x0 then (if bt106.2 = 0 then (if x5 = (wrap64 (x0 + x1)) then ((quitrentlaw10_goes.f).bind fun t108 => (some t108)) else (some false)) else (some false)) else (some false))) else (if x5 = 0 then (if ((decide (x0 > 0)) == (decide (x1 > 0))) = true then ((quitrentlaw10_goes.f).bind fun t109 => (some t109)) else (some false)) else (some false)))
def quitrentlaw10_MoneyNeg.f (k : Nat) (a0 : Int) (a1 : Int) : Option (Bool) := (money_Add.f a0 a1).bind fun bt101 => (if a1 = (-9223372036854775808) then ((quitrentlaw10_goes.f).bind fun t103 => (some t103)) else ((money_Add.f a1 (wrap64 (-a1))).bind fun bt104 => (if bt104.1 = 0 then (quitrentlaw10_MoneyNeg.j0 k a0 a1 bt101.1 bt101.2 (bt104.2 != 0)) else (quitrentlaw10_MoneyNeg.j0 k a0 a1 bt101.1 bt101.2 true))))
theorem quitrentlaw10_MoneyNeg.mono_l : ∀ k, (∀ y0 y1 y2 y3 y4, LeO (quitrentlaw10_MoneyNeg.j0 k y0 y1 y2 y3 y4) (quitrentlaw10_MoneyNeg.j0 (k + 1) y0 y1 y2 y3 y4))
  | 0 => fun _ _ _ _ _ r h => by simp [quitrentlaw10_MoneyNeg.j0] at h
  | k + 1 => by
    have ih0 := quitrentlaw10_MoneyNeg.mono_l k
    · intro y0 y1 y2 y3 y4
      unfold quitrentlaw10_MoneyNeg.j0
      repeat' first
      | (with_reducible exact ih0 _ _ _ _ _)
      | (with_reducible exact LeO.refl _)
      | (with_reducible exact LeO.none _)
      | (with_reducible refine LeO.ite ?_ ?_)
      | (with_reducible refine LeO.bind ?_ (fun _ => ?_))
      | exact ih0 _ _ _ _ _
      | exact LeO.none _
      | refine LeO.ite ?_ ?_
      | refine LeO.bind ?_ (fun _ => ?_)
theorem quitrentlaw10_MoneyNeg.mono : ∀ a0 a1 k, LeO (quitrentlaw10_MoneyNeg.f k a0 a1) (quitrentlaw10_MoneyNeg.f (k + 1) a0 a1) := by
  intro a0 a1 k
  have ih0 := quitrentlaw10_MoneyNeg.mono_l k
  unfold quitrentlaw10_MoneyNeg.f
  repeat' first
      | (with_reducible exact ih0 _ _ _ _ _)
      | (with_reducible exact LeO.refl _)
      | (with_reducible exact LeO.none _)
      | (with_reducible refine LeO.ite ?_ ?_)
      | (with_reducible refine LeO.bind ?_ (fun _ => ?_))
      | exact ih0 _ _ _ _ _
      | exact LeO.none _
      | refine LeO.ite ?_ ?_
      | refine LeO.bind ?_ (fun _ => ?_)
set_option maxHeartbeats 8000000 in
set_option maxRecDepth 100000 in
theorem quitrentlaw10_MoneyNeg.calls (k : Nat) (a0 : Int) (a1 : Int) (r : Bool) (w : World) (h : quitrentlaw10_MoneyNeg.f k a0 a1 = some r) :
    Calls Try.prog 8 #[.int .i64 a0, .int .i64 a1] w fun e w' => e = .returned (.bool r) ∧ Below w.heap.size w w' := by
  have HB := Aside0.mk (Below.refl w.heap.size w)
  have H : ((money_Add.f a0 a1).bind fun bt101 => (if a1 = (-9223372036854775808) then ((quitrentlaw10_goes.f).bind fun t103 => (some t103)) else ((money_Add.f a1 (wrap64 (-a1))).bind fun bt104 => (if bt104.1 = 0 then (quitrentlaw10_MoneyNeg.j0 k a0 a1 bt101.1 bt101.2 (bt104.2 != 0)) else (quitrentlaw10_MoneyNeg.j0 k a0 a1 bt101.1 bt101.2 true))))) = some r := h
  clear h
  replace H := Option.bind_eq_some_iff.mp H
  obtain ⟨⟨t101, t102⟩, A30, H⟩ := H
  replace H : (if a1 = (-9223372036854775808) then ((quitrentlaw10_goes.f).bind fun t103 => (some t103)) else ((money_Add.f a1 (wrap64 (-a1))).bind fun bt104 => (if bt104.1 = 0 then (quitrentlaw10_MoneyNeg.j0 k a0 a1 t101 t102 (bt104.2 != 0)) else (quitrentlaw10_MoneyNeg.j0 k a0 a1 t101 t102 true)))) = some r := H
  have A3 := Aside0.mk A30
  clear A30
  by_cases c4 : a1 = (-9223372036854775808)
  · rw [if_pos c4] at H
    have c4b0 : (a1 == (-9223372036854775808)) = true := beq_iff_eq.mpr c4
    have c4b1 : (a1 != (-9223372036854775808)) = false := bne_eq_false_iff_eq.mpr c4
    clear c4
    replace H := Option.bind_eq_some_iff.mp H
    obtain ⟨t103, A50, H⟩ := H
    replace H : (some t103) = some r := H
    have A5 := Aside0.mk A50
    clear A50
    obtain rfl := Option.some.inj H
    go_enter Try.func8, Try.ntmps8
    go_wp2_with (first | ((with_reducible refine gate_callee (f := 10) rfl ?_); refine goesL_ (some 14) rfl rfl Try.func10 (by kernel_rfl) rfl #[.int .i64 a0, .int .i64 a1] rfl (by (try simp only [List.map_toArray, List.map_cons, List.map_nil]); first | done | rfl | (simp only [List.length_drop, List.length_take]; rfl)) ?_; (with_reducible refine (money_Add.calls a0 a1 t101 t102 _ A3.out).mono ?_); rintro e w6 ⟨rfl, hb⟩; refine ⟨_, rfl, ?_⟩; have n0_ := Aside0.mk (below_step (by repeat (first | (with_reducible first | exact HB.out | apply below_alloc | apply pw_below_drewN | apply below_drew1) | exact HB.out)) hb); clear HB; have HB := n0_; clear n0_; (try clear hb); (try clear hb2); (try clear hk); (try clear hi)) | ((with_reducible refine gate_callee (f := 17) rfl ?_); refine goesL_ (some 19) rfl rfl Try.func17 (by kernel_rfl) rfl #[] rfl (by (try simp only [List.map_toArray, List.map_cons, List.map_nil]); first | done | rfl | (simp only [List.length_drop, List.length_take]; rfl)) ?_; (with_reducible refine (quitrentlaw10_goes.calls  t103 _ A5.out).mono ?_); rintro e w7 ⟨rfl, hb⟩; refine ⟨_, rfl, ?_⟩; have n0_ := Aside0.mk (below_step (by repeat (first | (with_reducible first | exact HB.out | apply below_alloc | apply pw_below_drewN | apply below_drew1) | exact HB.out)) hb); clear HB; have HB := n0_; clear n0_; (try clear hb); (try clear hb2); (try clear hk); (try clear hi)))
    go_ret
    exact ⟨by first | rfl | (simp [errW_none, errW_some] <;> rfl) | (simp [*, errW_none, errW_some] <;> rfl), by repeat (first | (with_reducible first | exact HB.out | apply below_alloc | apply pw_below_drewN | apply below_drew1) | exact HB.out)⟩
  · rw [if_neg c4] at H
    have c4b0 : (a1 == (-9223372036854775808)) = false := beq_eq_false_iff_ne.mpr c4
    have c4b1 : (a1 != (-9223372036854775808)) = true := bne_iff_ne.mpr c4
    replace H := Option.bind_eq_some_iff.mp H
    obtain ⟨⟨t104, t105⟩, A80, H⟩ := H
    replace H : (if t104 = 0 then (quitrentlaw10_MoneyNeg.j0 k a0 a1 t101 t102 (t105 != 0)) else (quitrentlaw10_MoneyNeg.j0 k a0 a1 t101 t102 true)) = some r := H
    have A8 := Aside0.mk A80
    clear A80
    have HC9 := Aside0.mk H
    clear H
    go_enter Try.func8, Try.ntmps8
    go_upto_region 5 with (first | ((with_reducible refine gate_callee (f := 10) rfl ?_); refine goesL_ (some 14) rfl rfl Try.func10 (by kernel_rfl) rfl #[.int .i64 a0, .int .i64 a1] rfl (by (try simp only [List.map_toArray, List.map_cons, List.map_nil]); first | done | rfl | (simp only [List.length_drop, List.length_take]; rfl)) ?_; (with_reducible refine (money_Add.calls a0 a1 t101 t102 _ A3.out).mono ?_); rintro e w10 ⟨rfl, hb⟩; refine ⟨_, rfl, ?_⟩; have n0_ := Aside0.mk (below_step (by repeat (first | (with_reducible first | exact HB.out | apply below_alloc | apply pw_below_drewN | apply below_drew1) | exact HB.out)) hb); clear HB; have HB := n0_; clear n0_; (try clear hb); (try clear hb2); (try clear hk); (try clear hi)) | ((with_reducible refine gate_callee (f := 10) rfl ?_); refine goesL_ (some 24) rfl rfl Try.func10 (by kernel_rfl) rfl #[.int .i64 a1, .int .i64 (wrap64 (-a1))] rfl (by (try simp only [List.map_toArray, List.map_cons, List.map_nil]); first | done | rfl | (simp only [List.length_drop, List.length_take]; rfl)) ?_; (with_reducible refine (money_Add.calls a1 (wrap64 (-a1)) t104 t105 _ A8.out).mono ?_); rintro e w11 ⟨rfl, hb⟩; refine ⟨_, rfl, ?_⟩; have n0_ := Aside0.mk (below_step (by repeat (first | (with_reducible first | exact HB.out | apply below_alloc | apply pw_below_drewN | apply below_drew1) | exact HB.out)) hb); clear HB; have HB := n0_; clear n0_; (try clear hb); (try clear hb2); (try clear hk); (try clear hi)))
    (try simp only [Act.put, List.setIfInBounds_toArray, List.set_cons_zero, List.set_cons_succ])
    go_cut [32] (fun v32 wc => ∃ (kq : Nat) (x32_8 : Bool), v32 = .bool x32_8 ∧ Aside0 (quitrentlaw10_MoneyNeg.j0 kq a0 a1 t101 t102 x32_8 = some r) ∧ Aside0 (kq ≤ k) ∧ Aside0 (Below w.heap.size w wc))
    case first =>
      have H := HC9.out
      clear HC9
      by_cases c12 : t104 = 0
      · rw [if_pos c12] at H
        have c12b0 : (t104 == 0) = true := beq_iff_eq.mpr c12
        have c12b1 : (t104 != 0) = false := bne_eq_false_iff_eq.mpr c12
        clear c12
        (first | rw [c12b0] | (simp only [i64_w, i32_w]; rw [c12b0]) | skip)
        have H' := Aside0.mk H
        clear H
        go_wp2
        go_meet
        case rel => exact ⟨_, ((t105 != 0)), (by first | rfl | (simp; done) | (simp [*]; done)), H', ⟨by first | omega | exact Nat.le_refl _⟩, ⟨by repeat (first | (with_reducible first | exact HB.out | apply below_alloc | apply pw_below_drewN | apply below_drew1) | exact HB.out)⟩⟩
      · rw [if_neg c12] at H
        have c12b0 : (t104 == 0) = false := beq_eq_false_iff_ne.mpr c12
        have c12b1 : (t104 != 0) = true := bne_iff_ne.mpr c12
        (first | rw [c12b0] | (simp only [i64_w, i32_w]; rw [c12b0]) | skip)
        have H' := Aside0.mk H
        clear H
        go_wp2
        go_meet
        case rel => exact ⟨_, (true), (by first | rfl | (simp; done) | (simp [*]; done)), H', ⟨by first | omega | exact Nat.le_refl _⟩, ⟨by repeat (first | (with_reducible first | exact HB.out | apply below_alloc | apply pw_below_drewN | apply below_drew1) | exact HB.out)⟩⟩
    case rest =>
      clear HC9
      try clear c1
      try clear p2
      try clear c4
      try clear c4b0
      try clear c4b1
      try clear p6
      try clear c8
      try clear c10
      try clear c12
      try clear c12b0
      try clear c12b1
      obtain ⟨kq, x32_8, rfl, HA, HJ8, HB⟩ := hcut
      cases kq with
      | zero => exact absurd HA.out (by simp [quitrentlaw10_MoneyNeg.j0])
      | succ kj8 =>
        have H := HA.out
        clear HA
        simp only [quitrentlaw10_MoneyNeg.j0] at H
        by_cases c13 : x32_8 = true
        · subst c13
          have H1 : (some false) = some r := by rw [if_pos rfl] at H; exact H
          clear H
          have H := H1
          clear H1
          obtain rfl := Option.some.inj H
          go_wp2
          go_ret
          exact ⟨by first | rfl | (simp [errW_none, errW_some] <;> rfl) | (simp [*, errW_none, errW_some] <;> rfl), by repeat (first | (with_reducible first | exact HB.out | apply below_alloc | apply pw_below_drewN | apply below_drew1) | exact HB.out)⟩
        · replace c13 := Bool.eq_false_iff.mpr c13
          subst c13
          have H1 : (if t102 = 0 then ((money_Add.f t101 (wrap64 (-a1))).bind fun bt106 => (if bt106.1 = a0 then (if bt106.2 = 0 then (if t101 = (wrap64 (a0 + a1)) then ((quitrentlaw10_goes.f).bind fun t108 => (some t108)) else (some false)) else (some false)) else (some false))) else (if t101 = 0 then (if ((decide (a0 > 0)) == (decide (a1 > 0))) = true then ((quitrentlaw10_goes.f).bind fun t109 => (some t109)) else (some false)) else (some false))) = some r := by rw [if_neg (show ¬ (false = true) by decide)] at H; exact H
          clear H
          have H := H1
          clear H1
          by_cases c14 : t102 = 0
          · rw [if_pos c14] at H
            have c14b0 : (t102 == 0) = true := beq_iff_eq.mpr c14
            have c14b1 : (t102 != 0) = false := bne_eq_false_iff_eq.mpr c14
            clear c14
            replace H := Option.bind_eq_some_iff.mp H
            obtain ⟨⟨t106, t107⟩, A150, H⟩ := H
            replace H : (if t106 = a0 then (if t107 = 0 then (if t101 = (wrap64 (a0 + a1)) then ((quitrentlaw10_goes.f).bind fun t108 => (some t108)) else (some false)) else (some false)) else (some false)) = some r := H
            have A15 := Aside0.mk A150
            clear A150
            by_cases c16 : t106 = a0
            · rw [if_pos c16] at H
              have c16b0 : (t106 == a0) = true := beq_iff_eq.mpr c16
              have c16b1 : (t106 != a0) = false := bne_eq_false_iff_eq.mpr c16
              clear c16
              by_cases c17 : t107 = 0
              · rw [if_pos c17] at H
                have c17b0 : (t107 == 0) = true := beq_iff_eq.mpr c17
                have c17b1 : (t107 != 0) = false := bne_eq_false_iff_eq.mpr c17
                clear c17
                by_cases c18 : t101 = (wrap64 (a0 + a1))
                · rw [if_pos c18] at H
                  have c18b0 : (t101 == (wrap64 (a0 + a1))) = true := beq_iff_eq.mpr c18
                  have c18b1 : (t101 != (wrap64 (a0 + a1))) = false := bne_eq_false_iff_eq.mpr c18
                  clear c18
                  replace H := Option.bind_eq_some_iff.mp H
                  obtain ⟨t108, A190, H⟩ := H
                  replace H : (some t108) = some r := H
                  have A19 := Aside0.mk A190
                  clear A190
                  obtain rfl := Option.some.inj H
                  go_wp2_with (first | ((with_reducible refine gate_callee (f := 10) rfl ?_); refine goesL_ (some 51) rfl rfl Try.func10 (by kernel_rfl) rfl #[.int .i64 t101, .int .i64 (wrap64 (-a1))] rfl (by (try simp only [List.map_toArray, List.map_cons, List.map_nil]); first | done | rfl | (simp only [List.length_drop, List.length_take]; rfl)) ?_; (with_reducible refine (money_Add.calls t101 (wrap64 (-a1)) t106 t107 _ A15.out).mono ?_); rintro e w20 ⟨rfl, hb⟩; refine ⟨_, rfl, ?_⟩; have n0_ := Aside0.mk (below_step (by repeat (first | (with_reducible first | exact HB.out | apply below_alloc | apply pw_below_drewN | apply below_drew1) | exact HB.out)) hb); clear HB; have HB := n0_; clear n0_; (try clear hb); (try clear hb2); (try clear hk); (try clear hi)) | (go_at_call 17; (with_reducible refine (quitrentlaw10_goes.calls  t108 _ A19.out).mono ?_); rintro e w21 ⟨rfl, hb⟩; have n0_ := Aside0.mk (below_step (by repeat (first | (with_reducible first | exact HB.out | apply below_alloc | apply pw_below_drewN | apply below_drew1) | exact HB.out)) hb); clear HB; have HB := n0_; clear n0_; (try clear hb); (try clear hb2); (try clear hk); (try clear hi)))
                  go_ret
                  exact ⟨by first | rfl | (simp [errW_none, errW_some] <;> rfl) | (simp [*, errW_none, errW_some] <;> rfl), by repeat (first | (with_reducible first | exact HB.out | apply below_alloc | apply pw_below_drewN | apply below_drew1) | exact HB.out)⟩
                · rw [if_neg c18] at H
                  have c18b0 : (t101 == (wrap64 (a0 + a1))) = false := beq_eq_false_iff_ne.mpr c18
                  have c18b1 : (t101 != (wrap64 (a0 + a1))) = true := bne_iff_ne.mpr c18
                  obtain rfl := Option.some.inj H
                  go_wp2_with (first | ((with_reducible refine gate_callee (f := 10) rfl ?_); refine goesL_ (some 51) rfl rfl Try.func10 (by kernel_rfl) rfl #[.int .i64 t101, .int .i64 (wrap64 (-a1))] rfl (by (try simp only [List.map_toArray, List.map_cons, List.map_nil]); first | done | rfl | (simp only [List.length_drop, List.length_take]; rfl)) ?_; (with_reducible refine (money_Add.calls t101 (wrap64 (-a1)) t106 t107 _ A15.out).mono ?_); rintro e w22 ⟨rfl, hb⟩; refine ⟨_, rfl, ?_⟩; have n0_ := Aside0.mk (below_step (by repeat (first | (with_reducible first | exact HB.out | apply below_alloc | apply pw_below_drewN | apply below_drew1) | exact HB.out)) hb); clear HB; have HB := n0_; clear n0_; (try clear hb); (try clear hb2); (try clear hk); (try clear hi)))
                  go_ret
                  exact ⟨by first | rfl | (simp [errW_none, errW_some] <;> rfl) | (simp [*, errW_none, errW_some] <;> rfl), by repeat (first | (with_reducible first | exact HB.out | apply below_alloc | apply pw_below_drewN | apply below_drew1) | exact HB.out)⟩
              · rw [if_neg c17] at H
                have c17b0 : (t107 == 0) = false := beq_eq_false_iff_ne.mpr c17
                have c17b1 : (t107 != 0) = true := bne_iff_ne.mpr c17
                obtain rfl := Option.some.inj H
                go_wp2_with (first | ((with_reducible refine gate_callee (f := 10) rfl ?_); refine goesL_ (some 51) rfl rfl Try.func10 (by kernel_rfl) rfl #[.int .i64 t101, .int .i64 (wrap64 (-a1))] rfl (by (try simp only [List.map_toArray, List.map_cons, List.map_nil]); first | done | rfl | (simp only [List.length_drop, List.length_take]; rfl)) ?_; (with_reducible refine (money_Add.calls t101 (wrap64 (-a1)) t106 t107 _ A15.out).mono ?_); rintro e w23 ⟨rfl, hb⟩; refine ⟨_, rfl, ?_⟩; have n0_ := Aside0.mk (below_step (by repeat (first | (with_reducible first | exact HB.out | apply below_alloc | apply pw_below_drewN | apply below_drew1) | exact HB.out)) hb); clear HB; have HB := n0_; clear n0_; (try clear hb); (try clear hb2); (try clear hk); (try clear hi)))
                go_ret
                exact ⟨by first | rfl | (simp [errW_none, errW_some] <;> rfl) | (simp [*, errW_none, errW_some] <;> rfl), by repeat (first | (with_reducible first | exact HB.out | apply below_alloc | apply pw_below_drewN | apply below_drew1) | exact HB.out)⟩
            · rw [if_neg c16] at H
              have c16b0 : (t106 == a0) = false := beq_eq_false_iff_ne.mpr c16
              have c16b1 : (t106 != a0) = true := bne_iff_ne.mpr c16
              obtain rfl := Option.some.inj H
              go_wp2_with (first | ((with_reducible refine gate_callee (f := 10) rfl ?_); refine goesL_ (some 51) rfl rfl Try.func10 (by kernel_rfl) rfl #[.int .i64 t101, .int .i64 (wrap64 (-a1))] rfl (by (try simp only [List.map_toArray, List.map_cons, List.map_nil]); first | done | rfl | (simp only [List.length_drop, List.length_take]; rfl)) ?_; (with_reducible refine (money_Add.calls t101 (wrap64 (-a1)) t106 t107 _ A15.out).mono ?_); rintro e w24 ⟨rfl, hb⟩; refine ⟨_, rfl, ?_⟩; have n0_ := Aside0.mk (below_step (by repeat (first | (with_reducible first | exact HB.out | apply below_alloc | apply pw_below_drewN | apply below_drew1) | exact HB.out)) hb); clear HB; have HB := n0_; clear n0_; (try clear hb); (try clear hb2); (try clear hk); (try clear hi)))
              go_ret
              exact ⟨by first | rfl | (simp [errW_none, errW_some] <;> rfl) | (simp [*, errW_none, errW_some] <;> rfl), by repeat (first | (with_reducible first | exact HB.out | apply below_alloc | apply pw_below_drewN | apply below_drew1) | exact HB.out)⟩
          · rw [if_neg c14] at H
            have c14b0 : (t102 == 0) = false := beq_eq_false_iff_ne.mpr c14
            have c14b1 : (t102 != 0) = true := bne_iff_ne.mpr c14
            by_cases c25 : t101 = 0
            · rw [if_pos c25] at H
              have c25b0 : (t101 == 0) = true := beq_iff_eq.mpr c25
              have c25b1 : (t101 != 0) = false := bne_eq_false_iff_eq.mpr c25
              clear c25
              by_cases c26 : ((decide (a0 > 0)) == (decide (a1 > 0))) = true
              · rw [if_pos c26] at H
                have c26b0 : ((decide (a0 > 0)) == (decide (a1 > 0))) = true := c26
                (try (have c26b1 : decide ((decide (a0 > 0)) = (decide (a1 > 0))) = true := by simpa using c26))
                (try (have c26b2 : ((decide (a0 > 0)) == (decide (a1 > 0))) = true := by simpa using c26))
                clear c26
                replace H := Option.bind_eq_some_iff.mp H
                obtain ⟨t109, A270, H⟩ := H
                replace H : (some t109) = some r := H
                have A27 := Aside0.mk A270
                clear A270
                obtain rfl := Option.some.inj H
                go_wp2_with (first | (go_at_call 17; (with_reducible refine (quitrentlaw10_goes.calls  t109 _ A27.out).mono ?_); rintro e w28 ⟨rfl, hb⟩; have n0_ := Aside0.mk (below_step (by repeat (first | (with_reducible first | exact HB.out | apply below_alloc | apply pw_below_drewN | apply below_drew1) | exact HB.out)) hb); clear HB; have HB := n0_; clear n0_; (try clear hb); (try clear hb2); (try clear hk); (try clear hi)))
                go_ret
                exact ⟨by first | rfl | (simp [errW_none, errW_some] <;> rfl) | (simp [*, errW_none, errW_some] <;> rfl), by repeat (first | (with_reducible first | exact HB.out | apply below_alloc | apply pw_below_drewN | apply below_drew1) | exact HB.out)⟩
              · rw [if_neg c26] at H
                have c26b0 : ((decide (a0 > 0)) == (decide (a1 > 0))) = false := by simpa using c26
                (try (have c26b1 : decide ((decide (a0 > 0)) = (decide (a1 > 0))) = false := by simpa using c26))
                (try (have c26b2 : ((decide (a0 > 0)) == (decide (a1 > 0))) = false := by simpa using c26))
                (try (have c26b3 : ¬ ((decide (a0 > 0)) = (decide (a1 > 0))) := by simpa using c26))
                clear c26
                obtain rfl := Option.some.inj H
                go_wp2
                go_ret
                exact ⟨by first | rfl | (simp [errW_none, errW_some] <;> rfl) | (simp [*, errW_none, errW_some] <;> rfl), by repeat (first | (with_reducible first | exact HB.out | apply below_alloc | apply pw_below_drewN | apply below_drew1) | exact HB.out)⟩
            · rw [if_neg c25] at H
              have c25b0 : (t101 == 0) = false := beq_eq_false_iff_ne.mpr c25
              have c25b1 : (t101 != 0) = true := bne_iff_ne.mpr c25
              obtain rfl := Option.some.inj H
              go_wp2
              go_ret
              exact ⟨by first | rfl | (simp [errW_none, errW_some] <;> rfl) | (simp [*, errW_none, errW_some] <;> rfl), by repeat (first | (with_reducible first | exact HB.out | apply below_alloc | apply pw_below_drewN | apply below_drew1) | exact HB.out)⟩

/-- THE ONE PURE STATEMENT of quitrentlaw10_MoneyNeg: yours. -/
def quitrentlaw10_MoneyNeg.Pure : Prop := ∀ (a0 : Int) (a1 : Int), (Lit.int .i64 a0).wf = true → (Lit.int .i64 a1).wf = true → ∃ k, quitrentlaw10_MoneyNeg.f k a0 a1 = some true
theorem quitrentlaw10_MoneyNeg.walk (P : quitrentlaw10_MoneyNeg.Pure) (a0 : Int) (a1 : Int) (w : World) (w0 : (Lit.int .i64 a0).wf = true) (w1 : (Lit.int .i64 a1).wf = true) :
    Calls Try.prog 8 #[.int .i64 a0, .int .i64 a1] w fun e w' => e = .returned (.bool true) ∧ Below w.heap.size w w' := by
  obtain ⟨k, h⟩ := P a0 a1 w0 w1
  refine (quitrentlaw10_MoneyNeg.calls k a0 a1 true w h).mono ?_
  rintro e w' ⟨rfl, hd⟩
  exact ⟨rfl, hd⟩

end Go.Proofs.Ytdhiaagjbdbnhaa.PZNeg
