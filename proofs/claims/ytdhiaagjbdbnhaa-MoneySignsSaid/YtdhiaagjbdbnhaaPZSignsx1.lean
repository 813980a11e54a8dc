-- Written by wip/print2.sh of this repo (a patched copy of the kit's print, with contracts proved by hand).
import Derived.Test.YtdhiaagjbdbnhaaPZSignsx0
import Derived.Test.YtdhiaagjbdbnhaaPart
namespace Go.Proofs.Ytdhiaagjbdbnhaa.PZSigns
open Go.RowKit Go.Proofs.YtdhiaagjbdbnhaaW.PrintWords Go.Proofs.YtdhiaagjbdbnhaaW.PrintLast Go.Proofs.YtdhiaagjbdbnhaaW.PrintMore
attribute [local go_sem] max2_int min2_int max_two min_two max_three min_three max_four min_four   -- for this text's walks alone
set_option linter.unusedVariables false
set_option linter.unusedSimpArgs false

open Go.Proofs.Ytdhiaagjbdbnhaa.Ext
/-! ### quitrentlaw10_MoneySigns: function 7 -/
def quitrentlaw10_MoneySigns.j0 : Nat → Int → Int → Int → Int → Bool → Option (Bool)
  | 0, _, _, _, _, _ => none
  | k + 1, x0, x1, x5, x6, x61 => if x61 = true then (some false) else (if x1 = (-9223372036854775808) then ((quitrentlaw10_goes.f).bind fun t109 => (some t109)) else ((money_Mul.f x0 (wrap64 (-x1))).bind fun bt110 => (if x6 = 0 then (if bt110.2 = 0 then (if x5 = (wrap64 (-bt110.1)) then (if x6 = bt110.2 then ((quitrentlaw10_goes.f).bind fun t112 => (some t112)) else (if x5 = (-9223372036854775808) then ((quitrentlaw10_goes.f).bind fun t113 => (some t113)) else (if bt110.1 = (-9223372036854775808) then ((quitrentlaw10_goes.f).bind fun t114 => (some t114)) else (some false)))) else (some false)) else (if x6 = bt110.2 then ((quitrentlaw10_goes.f).bind fun t115 => (some t115)) else (if x5 = (-9223372036854775808) then ((quitrentlaw10_goes.f).bind fun t116 => (some t116)) else (if bt110.1 = (-9223372036854775808) then ((quitrentlaw10_goes.f).bind fun t117 => (some t117)) else (some false))))) else (if x6 = bt110.2 then ((quitrentlaw10_goes.f).bind fun t118 => (some t118)) else (if x5 = (-9223372036854775808) then ((quitrentlaw10_goes.f).bind fun t119 => (some t119)) else (if bt110.1 = (-9223372036854775808) then ((quitrentlaw10_goes.f).bind fun t120 => (some t120)) else (some false)))))))
def quitrentlaw10_MoneySigns.f (k : Nat) (a0 : Int) (a1 : Int) : Option (Bool) := (money_Mul.f a0 a1).bind fun bt101 => ((money_Mul.f a1 a0).bind fun bt103 => ((money_Mul.f a0 1).bind fun bt105 => ((money_Mul.f a0 0).bind fun bt107 => (if bt101.1 = bt103.1 then (if bt101.2 = bt103.2 then (if bt105.1 = a0 then (if bt105.2 = 0 then (if bt107.1 = 0 then (quitrentlaw10_MoneySigns.j0 k a0 a1 bt101.1 bt101.2 (bt107.2 != 0)) else (quitrentlaw10_MoneySigns.j0 k a0 a1 bt101.1 bt101.2 true)) else (quitrentlaw10_MoneySigns.j0 k a0 a1 bt101.1 bt101.2 true)) else (quitrentlaw10_MoneySigns.j0 k a0 a1 bt101.1 bt101.2 true)) else (quitrentlaw10_MoneySigns.j0 k a0 a1 bt101.1 bt101.2 true)) else (quitrentlaw10_MoneySigns.j0 k a0 a1 bt101.1 bt101.2 true)))))
theorem quitrentlaw10_MoneySigns.mono_l : ∀ k, (∀ y0 y1 y2 y3 y4, LeO (quitrentlaw10_MoneySigns.j0 k y0 y1 y2 y3 y4) (quitrentlaw10_MoneySigns.j0 (k + 1) y0 y1 y2 y3 y4))
  | 0 => fun _ _ _ _ _ r h => by simp [quitrentlaw10_MoneySigns.j0] at h
  | k + 1 => by
    have ih0 := quitrentlaw10_MoneySigns.mono_l k
    · intro y0 y1 y2 y3 y4
      unfold quitrentlaw10_MoneySigns.j0
      repeat' first
      | (with_reducible exact ih0 _ _ _ _ _)
      | (with_reducible exact LeO.refl _)
      | (with_reducible exact LeO.none _)
      | (with_reducible refine LeO.ite ?_ ?_)
      | (with_reducible refine LeO.bind ?_ (fun _ => ?_))
      | exact ih0 _ _ _ _ _
      | exact LeO.none _
      | refine LeO.ite ?_ ?_
      | refine LeO.bind ?_ (fun _ => ?_)
theorem quitrentlaw10_MoneySigns.mono : ∀ a0 a1 k, LeO (quitrentlaw10_MoneySigns.f k a0 a1) (quitrentlaw10_MoneySigns.f (k + 1) a0 a1) := by
  intro a0 a1 k
  have ih0 := quitrentlaw10_MoneySigns.mono_l k
  unfold quitrentlaw10_MoneySigns.f
  repeat' first
      | (with_reducible exact ih0 _ _ _ _ _)
      | (with_reducible exact LeO.refl _)
      | (with_reducible exact LeO.none _)
      | (with_reducible refine LeO.ite ?_ ?_)
      | (with_reducible refine LeO.bind ?_ (fun _ => ?_))
      | exact ih0 _ _ _ _ _
      | exact LeO.none _
      | refine LeO.ite ?_ ?_
      | refine LeO.bind ?_ (fun _ => ?_)
set_option maxHeartbeats 8000000 in
set_option maxRecDepth 100000 in
theorem quitrentlaw10_MoneySigns.calls (k : Nat) (a0 : Int) (a1 : Int) (r : Bool) (w : World) (h : quitrentlaw10_MoneySigns.f k a0 a1 = some r) :
    Calls Try.prog 7 #[.int .i64 a0, .int .i64 a1] w fun e w' => e = .returned (.bool r) ∧ Below w.heap.size w w' := by
  have HB := Aside0.mk (Below.refl w.heap.size w)
  have H : ((money_Mul.f a0 a1).bind fun bt101 => ((money_Mul.f a1 a0).bind fun bt103 => ((money_Mul.f a0 1).bind fun bt105 => ((money_Mul.f a0 0).bind fun bt107 => (if bt101.1 = bt103.1 then (if bt101.2 = bt103.2 then (if bt105.1 = a0 then (if bt105.2 = 0 then (if bt107.1 = 0 then (quitrentlaw10_MoneySigns.j0 k a0 a1 bt101.1 bt101.2 (bt107.2 != 0)) else (quitrentlaw10_MoneySigns.j0 k a0 a1 bt101.1 bt101.2 true)) else (quitrentlaw10_MoneySigns.j0 k a0 a1 bt101.1 bt101.2 true)) else (quitrentlaw10_MoneySigns.j0 k a0 a1 bt101.1 bt101.2 true)) else (quitrentlaw10_MoneySigns.j0 k a0 a1 bt101.1 bt101.2 true)) else (quitrentlaw10_MoneySigns.j0 k a0 a1 bt101.1 bt101.2 true)))))) = some r := h
  clear h
  replace H := Option.bind_eq_some_iff.mp H
  obtain ⟨⟨t101, t102⟩, A30, H⟩ := H
  replace H : ((money_Mul.f a1 a0).bind fun bt103 => ((money_Mul.f a0 1).bind fun bt105 => ((money_Mul.f a0 0).bind fun bt107 => (if t101 = bt103.1 then (if t102 = bt103.2 then (if bt105.1 = a0 then (if bt105.2 = 0 then (if bt107.1 = 0 then (quitrentlaw10_MoneySigns.j0 k a0 a1 t101 t102 (bt107.2 != 0)) else (quitrentlaw10_MoneySigns.j0 k a0 a1 t101 t102 true)) else (quitrentlaw10_MoneySigns.j0 k a0 a1 t101 t102 true)) else (quitrentlaw10_MoneySigns.j0 k a0 a1 t101 t102 true)) else (quitrentlaw10_MoneySigns.j0 k a0 a1 t101 t102 true)) else (quitrentlaw10_MoneySigns.j0 k a0 a1 t101 t102 true))))) = some r := H
  have A3 := Aside0.mk A30
  clear A30
  replace H := Option.bind_eq_some_iff.mp H
  obtain ⟨⟨t103, t104⟩, A40, H⟩ := H
  replace H : ((money_Mul.f a0 1).bind fun bt105 => ((money_Mul.f a0 0).bind fun bt107 => (if t101 = t103 then (if t102 = t104 then (if bt105.1 = a0 then (if bt105.2 = 0 then (if bt107.1 = 0 then (quitrentlaw10_MoneySigns.j0 k a0 a1 t101 t102 (bt107.2 != 0)) else (quitrentlaw10_MoneySigns.j0 k a0 a1 t101 t102 true)) else (quitrentlaw10_MoneySigns.j0 k a0 a1 t101 t102 true)) else (quitrentlaw10_MoneySigns.j0 k a0 a1 t101 t102 true)) else (quitrentlaw10_MoneySigns.j0 k a0 a1 t101 t102 true)) else (quitrentlaw10_MoneySigns.j0 k a0 a1 t101 t102 true)))) = some r := H
  have A4 := Aside0.mk A40
  clear A40
  replace H := Option.bind_eq_some_iff.mp H
  obtain ⟨⟨t105, t106⟩, A50, H⟩ := H
  replace H : ((money_Mul.f a0 0).bind fun bt107 => (if t101 = t103 then (if t102 = t104 then (if t105 = a0 then (if t106 = 0 then (if bt107.1 = 0 then (quitrentlaw10_MoneySigns.j0 k a0 a1 t101 t102 (bt107.2 != 0)) else (quitrentlaw10_MoneySigns.j0 k a0 a1 t101 t102 true)) else (quitrentlaw10_MoneySigns.j0 k a0 a1 t101 t102 true)) else (quitrentlaw10_MoneySigns.j0 k a0 a1 t101 t102 true)) else (quitrentlaw10_MoneySigns.j0 k a0 a1 t101 t102 true)) else (quitrentlaw10_MoneySigns.j0 k a0 a1 t101 t102 true))) = some r := H
  have A5 := Aside0.mk A50
  clear A50
  replace H := Option.bind_eq_some_iff.mp H
  obtain ⟨⟨t107, t108⟩, A60, H⟩ := H
  replace H : (if t101 = t103 then (if t102 = t104 then (if t105 = a0 then (if t106 = 0 then (if t107 = 0 then (quitrentlaw10_MoneySigns.j0 k a0 a1 t101 t102 (t108 != 0)) else (quitrentlaw10_MoneySigns.j0 k a0 a1 t101 t102 true)) else (quitrentlaw10_MoneySigns.j0 k a0 a1 t101 t102 true)) else (quitrentlaw10_MoneySigns.j0 k a0 a1 t101 t102 true)) else (quitrentlaw10_MoneySigns.j0 k a0 a1 t101 t102 true)) else (quitrentlaw10_MoneySigns.j0 k a0 a1 t101 t102 true)) = some r := H
  have A6 := Aside0.mk A60
  clear A60
  have HC7 := Aside0.mk H
  clear H
  go_enter Try.func7, Try.ntmps7
  go_upto_region 5 with (first | ((with_reducible refine gate_callee (f := 12) rfl ?_); refine goesL_ (some 18) rfl rfl Try.func12 (by kernel_rfl) rfl #[.int .i64 a0, .int .i64 a1] rfl (by (try simp only [List.map_toArray, List.map_cons, List.map_nil]); first | done | rfl | (simp only [List.length_drop, List.length_take]; rfl)) ?_; (with_reducible refine (money_Mul.calls a0 a1 t101 t102 _ A3.out).mono ?_); rintro e w' ⟨rfl, ⟨nd, rfl⟩⟩; refine ⟨_, rfl, ?_⟩) | ((with_reducible refine gate_callee (f := 12) rfl ?_); refine goesL_ (some 24) rfl rfl Try.func12 (by kernel_rfl) rfl #[.int .i64 a1, .int .i64 a0] rfl (by (try simp only [List.map_toArray, List.map_cons, List.map_nil]); first | done | rfl | (simp only [List.length_drop, List.length_take]; rfl)) ?_; (with_reducible refine (money_Mul.calls a1 a0 t103 t104 _ A4.out).mono ?_); rintro e w' ⟨rfl, ⟨nd, rfl⟩⟩; refine ⟨_, rfl, ?_⟩) | ((with_reducible refine gate_callee (f := 12) rfl ?_); refine goesL_ (some 29) rfl rfl Try.func12 (by kernel_rfl) rfl #[.int .i64 a0, .int .i64 1] rfl (by (try simp only [List.map_toArray, List.map_cons, List.map_nil]); first | done | rfl | (simp only [List.length_drop, List.length_take]; rfl)) ?_; (with_reducible refine (money_Mul.calls a0 1 t105 t106 _ A5.out).mono ?_); rintro e w' ⟨rfl, ⟨nd, rfl⟩⟩; refine ⟨_, rfl, ?_⟩) | ((with_reducible refine gate_callee (f := 12) rfl ?_); refine goesL_ (some 34) rfl rfl Try.func12 (by kernel_rfl) rfl #[.int .i64 a0, .int .i64 0] rfl (by (try simp only [List.map_toArray, List.map_cons, List.map_nil]); first | done | rfl | (simp only [List.length_drop, List.length_take]; rfl)) ?_; (with_reducible refine (money_Mul.calls a0 0 t107 t108 _ A6.out).mono ?_); rintro e w' ⟨rfl, ⟨nd, rfl⟩⟩; refine ⟨_, rfl, ?_⟩))
  (try simp only [Act.put, List.setIfInBounds_toArray, List.set_cons_zero, List.set_cons_succ])
  go_cut [61] (fun v61 wc => ∃ (kq : Nat) (x61_6 : Bool), v61 = .bool x61_6 ∧ Aside0 (quitrentlaw10_MoneySigns.j0 kq a0 a1 t101 t102 x61_6 = some r) ∧ Aside0 (kq ≤ k) ∧ Aside0 (Below w.heap.size w wc))
  case first =>
    have H := HC7.out
    clear HC7
    by_cases c8 : t101 = t103
    · rw [if_pos c8] at H
      have c8b0 : (t101 == t103) = true := beq_iff_eq.mpr c8
      have c8b1 : (t101 != t103) = false := bne_eq_false_iff_eq.mpr c8
      clear c8
      (first | rw [c8b0] | (simp only [i64_w, i32_w]; rw [c8b0]) | skip)
      by_cases c9 : t102 = t104
      · rw [if_pos c9] at H
        have c9b0 : (t102 == t104) = true := beq_iff_eq.mpr c9
        have c9b1 : (t102 != t104) = false := bne_eq_false_iff_eq.mpr c9
        clear c9
        by_cases c10 : t105 = a0
        · rw [if_pos c10] at H
          have c10b0 : (t105 == a0) = true := beq_iff_eq.mpr c10
          have c10b1 : (t105 != a0) = false := bne_eq_false_iff_eq.mpr c10
          clear c10
          by_cases c11 : t106 = 0
          · rw [if_pos c11] at H
            have c11b0 : (t106 == 0) = true := beq_iff_eq.mpr c11
            have c11b1 : (t106 != 0) = false := bne_eq_false_iff_eq.mpr c11
            clear c11
            by_cases c12 : t107 = 0
            · rw [if_pos c12] at H
              have c12b0 : (t107 == 0) = true := beq_iff_eq.mpr c12
              have c12b1 : (t107 != 0) = false := bne_eq_false_iff_eq.mpr c12
              clear c12
              have H' := Aside0.mk H
              clear H
              go_wp2
              go_meet
              case rel => exact ⟨_, ((t108 != 0)), (by first | rfl | (simp; done) | (simp [*]; done)), H', ⟨by first | omega | exact Nat.le_refl _⟩, ⟨by repeat (first | (with_reducible first | exact HB.out | apply below_alloc | apply pw_below_drewN | apply below_drew1) | exact HB.out)⟩⟩
            · rw [if_neg c12] at H
              have c12b0 : (t107 == 0) = false := beq_eq_false_iff_ne.mpr c12
              have c12b1 : (t107 != 0) = true := bne_iff_ne.mpr c12
              have H' := Aside0.mk H
              clear H
              go_wp2
              go_meet
              case rel => exact ⟨_, (true), (by first | rfl | (simp; done) | (simp [*]; done)), H', ⟨by first | omega | exact Nat.le_refl _⟩, ⟨by repeat (first | (with_reducible first | exact HB.out | apply below_alloc | apply pw_below_drewN | apply below_drew1) | exact HB.out)⟩⟩
          · rw [if_neg c11] at H
            have c11b0 : (t106 == 0) = false := beq_eq_false_iff_ne.mpr c11
            have c11b1 : (t106 != 0) = true := bne_iff_ne.mpr c11
            have H' := Aside0.mk H
            clear H
            go_wp2
            go_meet
            case rel => exact ⟨_, (true), (by first | rfl | (simp; done) | (simp [*]; done)), H', ⟨by first | omega | exact Nat.le_refl _⟩, ⟨by repeat (first | (with_reducible first | exact HB.out | apply below_alloc | apply pw_below_drewN | apply below_drew1) | exact HB.out)⟩⟩
        · rw [if_neg c10] at H
          have c10b0 : (t105 == a0) = false := beq_eq_false_iff_ne.mpr c10
          have c10b1 : (t105 != a0) = true := bne_iff_ne.mpr c10
          have H' := Aside0.mk H
          clear H
          go_wp2
          go_meet
          case rel => exact ⟨_, (true), (by first | rfl | (simp; done) | (simp [*]; done)), H', ⟨by first | omega | exact Nat.le_refl _⟩, ⟨by repeat (first | (with_reducible first | exact HB.out | apply below_alloc | apply pw_below_drewN | apply below_drew1) | exact HB.out)⟩⟩
      · rw [if_neg c9] at H
        have c9b0 : (t102 == t104) = false := beq_eq_false_iff_ne.mpr c9
        have c9b1 : (t102 != t104) = true := bne_iff_ne.mpr c9
        have H' := Aside0.mk H
        clear H
        go_wp2
        go_meet
        case rel => exact ⟨_, (true), (by first | rfl | (simp; done) | (simp [*]; done)), H', ⟨by first | omega | exact Nat.le_refl _⟩, ⟨by repeat (first | (with_reducible first | exact HB.out | apply below_alloc | apply pw_below_drewN | apply below_drew1) | exact HB.out)⟩⟩
    · rw [if_neg c8] at H
      have c8b0 : (t101 == t103) = false := beq_eq_false_iff_ne.mpr c8
      have c8b1 : (t101 != t103) = true := bne_iff_ne.mpr c8
      (first | rw [c8b0] | (simp only [i64_w, i32_w]; rw [c8b0]) | skip)
      have H' := Aside0.mk H
      clear H
      go_wp2
      go_meet
      case rel => exact ⟨_, (true), (by first | rfl | (simp; done) | (simp [*]; done)), H', ⟨by first | omega | exact Nat.le_refl _⟩, ⟨by repeat (first | (with_reducible first | exact HB.out | apply below_alloc | apply pw_below_drewN | apply below_drew1) | exact HB.out)⟩⟩
  case rest =>
    clear HC7
    try clear c1
    try clear p2
    try clear c7
    try clear c8
    try clear c8b0
    try clear c8b1
    try clear c9
    try clear c9b0
    try clear c9b1
    try clear c10
    try clear c10b0
    try clear c10b1
    try clear c11
    try clear c11b0
    try clear c11b1
    try clear c12
    try clear c12b0
    try clear c12b1
    obtain ⟨kq, x61_6, rfl, HA, HJ6, HB⟩ := hcut
    cases kq with
    | zero => exact absurd HA.out (by simp [quitrentlaw10_MoneySigns.j0])
    | succ kj6 =>
      have H := HA.out
      clear HA
      simp only [quitrentlaw10_MoneySigns.j0] at H
      by_cases c13 : x61_6 = true
      · subst c13
        have H1 : (some false) = some r := by rw [if_pos rfl] at H; exact H
        clear H
        have H := H1
        clear H1
        obtain rfl := Option.some.inj H
        go_wp2
        go_ret
        exact ⟨by first | rfl | (simp [errW_none, errW_some] <;> rfl) | (simp [*, errW_none, errW_some] <;> rfl), by repeat (first | (with_reducible first | exact HB.out | apply below_alloc | apply pw_below_drewN | apply below_drew1) | exact HB.out)⟩
      · replace c13 := Bool.eq_false_iff.mpr c13
        subst c13
        have H1 : (if a1 = (-9223372036854775808) then ((quitrentlaw10_goes.f).bind fun t109 => (some t109)) else ((money_Mul.f a0 (wrap64 (-a1))).bind fun bt110 => (if t102 = 0 then (if bt110.2 = 0 then (if t101 = (wrap64 (-bt110.1)) then (if t102 = bt110.2 then ((quitrentlaw10_goes.f).bind fun t112 => (some t112)) else (if t101 = (-9223372036854775808) then ((quitrentlaw10_goes.f).bind fun t113 => (some t113)) else (if bt110.1 = (-9223372036854775808) then ((quitrentlaw10_goes.f).bind fun t114 => (some t114)) else (some false)))) else (some false)) else (if t102 = bt110.2 then ((quitrentlaw10_goes.f).bind fun t115 => (some t115)) else (if t101 = (-9223372036854775808) then ((quitrentlaw10_goes.f).bind fun t116 => (some t116)) else (if bt110.1 = (-9223372036854775808) then ((quitrentlaw10_goes.f).bind fun t117 => (some t117)) else (some false))))) else (if t102 = bt110.2 then ((quitrentlaw10_goes.f).bind fun t118 => (some t118)) else (if t101 = (-9223372036854775808) then ((quitrentlaw10_goes.f).bind fun t119 => (some t119)) else (if bt110.1 = (-9223372036854775808) then ((quitrentlaw10_goes.f).bind fun t120 => (some t120)) else (some false))))))) = some r := by rw [if_neg (show ¬ (false = true) by decide)] at H; exact H
        clear H
        have H := H1
        clear H1
        by_cases c14 : a1 = (-9223372036854775808)
        · rw [if_pos c14] at H
          have c14b0 : (a1 == (-9223372036854775808)) = true := beq_iff_eq.mpr c14
          have c14b1 : (a1 != (-9223372036854775808)) = false := bne_eq_false_iff_eq.mpr c14
          clear c14
          replace H := Option.bind_eq_some_iff.mp H
          obtain ⟨t109, A150, H⟩ := H
          replace H : (some t109) = some r := H
          have A15 := Aside0.mk A150
          clear A150
          obtain rfl := Option.some.inj H
          go_wp2_with (first | ((with_reducible refine gate_callee (f := 17) rfl ?_); refine goesL_ (some 64) rfl rfl Try.func17 (by kernel_rfl) rfl #[] rfl (by (try simp only [List.map_toArray, List.map_cons, List.map_nil]); first | done | rfl | (simp only [List.length_drop, List.length_take]; rfl)) ?_; (with_reducible refine (quitrentlaw10_goes.calls  t109 _ A15.out).mono ?_); rintro e w16 ⟨rfl, hb⟩; refine ⟨_, rfl, ?_⟩; have n0_ := Aside0.mk (below_step (by repeat (first | (with_reducible first | exact HB.out | apply below_alloc | apply pw_below_drewN | apply below_drew1) | exact HB.out)) hb); clear HB; have HB := n0_; clear n0_; (try clear hb); (try clear hb2); (try clear hk); (try clear hi)))
          go_ret
          exact ⟨by first | rfl | (simp [errW_none, errW_some] <;> rfl) | (simp [*, errW_none, errW_some] <;> rfl), by repeat (first | (with_reducible first | exact HB.out | apply below_alloc | apply pw_below_drewN | apply below_drew1) | exact HB.out)⟩
        · rw [if_neg c14] at H
          have c14b0 : (a1 == (-9223372036854775808)) = false := beq_eq_false_iff_ne.mpr c14
          have c14b1 : (a1 != (-9223372036854775808)) = true := bne_iff_ne.mpr c14
          replace H := Option.bind_eq_some_iff.mp H
          obtain ⟨⟨t110, t111⟩, A170, H⟩ := H
          replace H : (if t102 = 0 then (if t111 = 0 then (if t101 = (wrap64 (-t110)) then (if t102 = t111 then ((quitrentlaw10_goes.f).bind fun t112 => (some t112)) else (if t101 = (-9223372036854775808) then ((quitrentlaw10_goes.f).bind fun t113 => (some t113)) else (if t110 = (-9223372036854775808) then ((quitrentlaw10_goes.f).bind fun t114 => (some t114)) else (some false)))) else (some false)) else (if t102 = t111 then ((quitrentlaw10_goes.f).bind fun t115 => (some t115)) else (if t101 = (-9223372036854775808) then ((quitrentlaw10_goes.f).bind fun t116 => (some t116)) else (if t110 = (-9223372036854775808) then ((quitrentlaw10_goes.f).bind fun t117 => (some t117)) else (some false))))) else (if t102 = t111 then ((quitrentlaw10_goes.f).bind fun t118 => (some t118)) else (if t101 = (-9223372036854775808) then ((quitrentlaw10_goes.f).bind fun t119 => (some t119)) else (if t110 = (-9223372036854775808) then ((quitrentlaw10_goes.f).bind fun t120 => (some t120)) else (some false))))) = some r := H
          have A17 := Aside0.mk A170
          clear A170
          by_cases c18 : t102 = 0
          · rw [if_pos c18] at H
            have c18b0 : (t102 == 0) = true := beq_iff_eq.mpr c18
            have c18b1 : (t102 != 0) = false := bne_eq_false_iff_eq.mpr c18
            clear c18
            by_cases c19 : t111 = 0
            · rw [if_pos c19] at H
              have c19b0 : (t111 == 0) = true := beq_iff_eq.mpr c19
              have c19b1 : (t111 != 0) = false := bne_eq_false_iff_eq.mpr c19
              clear c19
              by_cases c20 : t101 = (wrap64 (-t110))
              · rw [if_pos c20] at H
                have c20b0 : (t101 == (wrap64 (-t110))) = true := beq_iff_eq.mpr c20
                have c20b1 : (t101 != (wrap64 (-t110))) = false := bne_eq_false_iff_eq.mpr c20
                clear c20
                by_cases c21 : t102 = t111
                · rw [if_pos c21] at H
                  have c21b0 : (t102 == t111) = true := beq_iff_eq.mpr c21
                  have c21b1 : (t102 != t111) = false := bne_eq_false_iff_eq.mpr c21
                  clear c21
                  replace H := Option.bind_eq_some_iff.mp H
                  obtain ⟨t112, A220, H⟩ := H
                  replace H : (some t112) = some r := H
                  have A22 := Aside0.mk A220
                  clear A220
                  obtain rfl := Option.some.inj H
                  go_wp2_with (first | ((with_reducible refine gate_callee (f := 12) rfl ?_); refine goesL_ (some 69) rfl rfl Try.func12 (by kernel_rfl) rfl #[.int .i64 a0, .int .i64 (wrap64 (-a1))] rfl (by (try simp only [List.map_toArray, List.map_cons, List.map_nil]); first | done | rfl | (simp only [List.length_drop, List.length_take]; rfl)) ?_; (with_reducible refine (money_Mul.calls a0 (wrap64 (-a1)) t110 t111 _ A17.out).mono ?_); rintro e w' ⟨rfl, ⟨nd, rfl⟩⟩; refine ⟨_, rfl, ?_⟩) | (go_at_call 17; (with_reducible refine (quitrentlaw10_goes.calls  t112 _ A22.out).mono ?_); rintro e w23 ⟨rfl, hb⟩; have n0_ := Aside0.mk (below_step (by repeat (first | (with_reducible first | exact HB.out | apply below_alloc | apply pw_below_drewN | apply below_drew1) | exact HB.out)) hb); clear HB; have HB := n0_; clear n0_; (try clear hb); (try clear hb2); (try clear hk); (try clear hi)))
                  go_ret
                  exact ⟨by first | rfl | (simp [errW_none, errW_some] <;> rfl) | (simp [*, errW_none, errW_some] <;> rfl), by repeat (first | (with_reducible first | exact HB.out | apply below_alloc | apply pw_below_drewN | apply below_drew1) | exact HB.out)⟩
                · rw [if_neg c21] at H
                  have c21b0 : (t102 == t111) = false := beq_eq_false_iff_ne.mpr c21
                  have c21b1 : (t102 != t111) = true := bne_iff_ne.mpr c21
                  by_cases c24 : t101 = (-9223372036854775808)
                  · rw [if_pos c24] at H
                    have c24b0 : (t101 == (-9223372036854775808)) = true := beq_iff_eq.mpr c24
                    have c24b1 : (t101 != (-9223372036854775808)) = false := bne_eq_false_iff_eq.mpr c24
                    clear c24
                    replace H := Option.bind_eq_some_iff.mp H
                    obtain ⟨t113, A250, H⟩ := H
                    replace H : (some t113) = some r := H
                    have A25 := Aside0.mk A250
                    clear A250
                    obtain rfl := Option.some.inj H
                    go_wp2_with (first | ((with_reducible refine gate_callee (f := 12) rfl ?_); refine goesL_ (some 69) rfl rfl Try.func12 (by kernel_rfl) rfl #[.int .i64 a0, .int .i64 (wrap64 (-a1))] rfl (by (try simp only [List.map_toArray, List.map_cons, List.map_nil]); first | done | rfl | (simp only [List.length_drop, List.length_take]; rfl)) ?_; (with_reducible refine (money_Mul.calls a0 (wrap64 (-a1)) t110 t111 _ A17.out).mono ?_); rintro e w' ⟨rfl, ⟨nd, rfl⟩⟩; refine ⟨_, rfl, ?_⟩) | (go_at_call 17; (with_reducible refine (quitrentlaw10_goes.calls  t113 _ A25.out).mono ?_); rintro e w26 ⟨rfl, hb⟩; have n0_ := Aside0.mk (below_step (by repeat (first | (with_reducible first | exact HB.out | apply below_alloc | apply pw_below_drewN | apply below_drew1) | exact HB.out)) hb); clear HB; have HB := n0_; clear n0_; (try clear hb); (try clear hb2); (try clear hk); (try clear hi)))
                    go_ret
                    exact ⟨by first | rfl | (simp [errW_none, errW_some] <;> rfl) | (simp [*, errW_none, errW_some] <;> rfl), by repeat (first | (with_reducible first | exact HB.out | apply below_alloc | apply pw_below_drewN | apply below_drew1) | exact HB.out)⟩
                  · rw [if_neg c24] at H
                    have c24b0 : (t101 == (-9223372036854775808)) = false := beq_eq_false_iff_ne.mpr c24
                    have c24b1 : (t101 != (-9223372036854775808)) = true := bne_iff_ne.mpr c24
                    by_cases c27 : t110 = (-9223372036854775808)
                    · rw [if_pos c27] at H
                      have c27b0 : (t110 == (-9223372036854775808)) = true := beq_iff_eq.mpr c27
                      have c27b1 : (t110 != (-9223372036854775808)) = false := bne_eq_false_iff_eq.mpr c27
                      clear c27
                      replace H := Option.bind_eq_some_iff.mp H
                      obtain ⟨t114, A280, H⟩ := H
                      replace H : (some t114) = some r := H
                      have A28 := Aside0.mk A280
                      clear A280
                      obtain rfl := Option.some.inj H
                      go_wp2_with (first | ((with_reducible refine gate_callee (f := 12) rfl ?_); refine goesL_ (some 69) rfl rfl Try.func12 (by kernel_rfl) rfl #[.int .i64 a0, .int .i64 (wrap64 (-a1))] rfl (by (try simp only [List.map_toArray, List.map_cons, List.map_nil]); first | done | rfl | (simp only [List.length_drop, List.length_take]; rfl)) ?_; (with_reducible refine (money_Mul.calls a0 (wrap64 (-a1)) t110 t111 _ A17.out).mono ?_); rintro e w' ⟨rfl, ⟨nd, rfl⟩⟩; refine ⟨_, rfl, ?_⟩) | (go_at_call 17; (with_reducible refine (quitrentlaw10_goes.calls  t114 _ A28.out).mono ?_); rintro e w29 ⟨rfl, hb⟩; have n0_ := Aside0.mk (below_step (by repeat (first | (with_reducible first | exact HB.out | apply below_alloc | apply pw_below_drewN | apply below_drew1) | exact HB.out)) hb); clear HB; have HB := n0_; clear n0_; (try clear hb); (try clear hb2); (try clear hk); (try clear hi)))
                      go_ret
                      exact ⟨by first | rfl | (simp [errW_none, errW_some] <;> rfl) | (simp [*, errW_none, errW_some] <;> rfl), by repeat (first | (with_reducible first | exact HB.out | apply below_alloc | apply pw_below_drewN | apply below_drew1) | exact HB.out)⟩
                    · rw [if_neg c27] at H
                      have c27b0 : (t110 == (-9223372036854775808)) = false := beq_eq_false_iff_ne.mpr c27
                      have c27b1 : (t110 != (-9223372036854775808)) = true := bne_iff_ne.mpr c27
                      obtain rfl := Option.some.inj H
                      go_wp2_with (first | ((with_reducible refine gate_callee (f := 12) rfl ?_); refine goesL_ (some 69) rfl rfl Try.func12 (by kernel_rfl) rfl #[.int .i64 a0, .int .i64 (wrap64 (-a1))] rfl (by (try simp only [List.map_toArray, List.map_cons, List.map_nil]); first | done | rfl | (simp only [List.length_drop, List.length_take]; rfl)) ?_; (with_reducible refine (money_Mul.calls a0 (wrap64 (-a1)) t110 t111 _ A17.out).mono ?_); rintro e w' ⟨rfl, ⟨nd, rfl⟩⟩; refine ⟨_, rfl, ?_⟩))
                      go_ret
                      exact ⟨by first | rfl | (simp [errW_none, errW_some] <;> rfl) | (simp [*, errW_none, errW_some] <;> rfl), by repeat (first | (with_reducible first | exact HB.out | apply below_alloc | apply pw_below_drewN | apply below_drew1) | exact HB.out)⟩
              · rw [if_neg c20] at H
                have c20b0 : (t101 == (wrap64 (-t110))) = false := beq_eq_false_iff_ne.mpr c20
                have c20b1 : (t101 != (wrap64 (-t110))) = true := bne_iff_ne.mpr c20
                obtain rfl := Option.some.inj H
                go_wp2_with (first | ((with_reducible refine gate_callee (f := 12) rfl ?_); refine goesL_ (some 69) rfl rfl Try.func12 (by kernel_rfl) rfl #[.int .i64 a0, .int .i64 (wrap64 (-a1))] rfl (by (try simp only [List.map_toArray, List.map_cons, List.map_nil]); first | done | rfl | (simp only [List.length_drop, List.length_take]; rfl)) ?_; (with_reducible refine (money_Mul.calls a0 (wrap64 (-a1)) t110 t111 _ A17.out).mono ?_); rintro e w' ⟨rfl, ⟨nd, rfl⟩⟩; refine ⟨_, rfl, ?_⟩))
                go_ret
                exact ⟨by first | rfl | (simp [errW_none, errW_some] <;> rfl) | (simp [*, errW_none, errW_some] <;> rfl), by repeat (first | (with_reducible first | exact HB.out | apply below_alloc | apply pw_below_drewN | apply below_drew1) | exact HB.out)⟩
            · rw [if_neg c19] at H
              have c19b0 : (t111 == 0) = false := beq_eq_false_iff_ne.mpr c19
              have c19b1 : (t111 != 0) = true := bne_iff_ne.mpr c19
              by_cases c30 : t102 = t111
              · rw [if_pos c30] at H
                have c30b0 : (t102 == t111) = true := beq_iff_eq.mpr c30
                have c30b1 : (t102 != t111) = false := bne_eq_false_iff_eq.mpr c30
                clear c30
                replace H := Option.bind_eq_some_iff.mp H
                obtain ⟨t115, A310, H⟩ := H
                replace H : (some t115) = some r := H
                have A31 := Aside0.mk A310
                clear A310
                obtain rfl := Option.some.inj H
                go_wp2_with (first | ((with_reducible refine gate_callee (f := 12) rfl ?_); refine goesL_ (some 69) rfl rfl Try.func12 (by kernel_rfl) rfl #[.int .i64 a0, .int .i64 (wrap64 (-a1))] rfl (by (try simp only [List.map_toArray, List.map_cons, List.map_nil]); first | done | rfl | (simp only [List.length_drop, List.length_take]; rfl)) ?_; (with_reducible refine (money_Mul.calls a0 (wrap64 (-a1)) t110 t111 _ A17.out).mono ?_); rintro e w' ⟨rfl, ⟨nd, rfl⟩⟩; refine ⟨_, rfl, ?_⟩) | (go_at_call 17; (with_reducible refine (quitrentlaw10_goes.calls  t115 _ A31.out).mono ?_); rintro e w32 ⟨rfl, hb⟩; have n0_ := Aside0.mk (below_step (by repeat (first | (with_reducible first | exact HB.out | apply below_alloc | apply pw_below_drewN | apply below_drew1) | exact HB.out)) hb); clear HB; have HB := n0_; clear n0_; (try clear hb); (try clear hb2); (try clear hk); (try clear hi)))
                go_ret
                exact ⟨by first | rfl | (simp [errW_none, errW_some] <;> rfl) | (simp [*, errW_none, errW_some] <;> rfl), by repeat (first | (with_reducible first | exact HB.out | apply below_alloc | apply pw_below_drewN | apply below_drew1) | exact HB.out)⟩
              · rw [if_neg c30] at H
                have c30b0 : (t102 == t111) = false := beq_eq_false_iff_ne.mpr c30
                have c30b1 : (t102 != t111) = true := bne_iff_ne.mpr c30
                by_cases c33 : t101 = (-9223372036854775808)
                · rw [if_pos c33] at H
                  have c33b0 : (t101 == (-9223372036854775808)) = true := beq_iff_eq.mpr c33
                  have c33b1 : (t101 != (-9223372036854775808)) = false := bne_eq_false_iff_eq.mpr c33
                  clear c33
                  replace H := Option.bind_eq_some_iff.mp H
                  obtain ⟨t116, A340, H⟩ := H
                  replace H : (some t116) = some r := H
                  have A34 := Aside0.mk A340
                  clear A340
                  obtain rfl := Option.some.inj H
                  go_wp2_with (first | ((with_reducible refine gate_callee (f := 12) rfl ?_); refine goesL_ (some 69) rfl rfl Try.func12 (by kernel_rfl) rfl #[.int .i64 a0, .int .i64 (wrap64 (-a1))] rfl (by (try simp only [List.map_toArray, List.map_cons, List.map_nil]); first | done | rfl | (simp only [List.length_drop, List.length_take]; rfl)) ?_; (with_reducible refine (money_Mul.calls a0 (wrap64 (-a1)) t110 t111 _ A17.out).mono ?_); rintro e w' ⟨rfl, ⟨nd, rfl⟩⟩; refine ⟨_, rfl, ?_⟩) | (go_at_call 17; (with_reducible refine (quitrentlaw10_goes.calls  t116 _ A34.out).mono ?_); rintro e w35 ⟨rfl, hb⟩; have n0_ := Aside0.mk (below_step (by repeat (first | (with_reducible first | exact HB.out | apply below_alloc | apply pw_below_drewN | apply below_drew1) | exact HB.out)) hb); clear HB; have HB := n0_; clear n0_; (try clear hb); (try clear hb2); (try clear hk); (try clear hi)))
                  go_ret
                  exact ⟨by first | rfl | (simp [errW_none, errW_some] <;> rfl) | (simp [*, errW_none, errW_some] <;> rfl), by repeat (first | (with_reducible first | exact HB.out | apply below_alloc | apply pw_below_drewN | apply below_drew1) | exact HB.out)⟩
                · rw [if_neg c33] at H
                  have c33b0 : (t101 == (-9223372036854775808)) = false := beq_eq_false_iff_ne.mpr c33
                  have c33b1 : (t101 != (-9223372036854775808)) = true := bne_iff_ne.mpr c33
                  by_cases c36 : t110 = (-9223372036854775808)
                  · rw [if_pos c36] at H
                    have c36b0 : (t110 == (-9223372036854775808)) = true := beq_iff_eq.mpr c36
                    have c36b1 : (t110 != (-9223372036854775808)) = false := bne_eq_false_iff_eq.mpr c36
                    clear c36
                    replace H := Option.bind_eq_some_iff.mp H
                    obtain ⟨t117, A370, H⟩ := H
                    replace H : (some t117) = some r := H
                    have A37 := Aside0.mk A370
                    clear A370
                    obtain rfl := Option.some.inj H
                    go_wp2_with (first | ((with_reducible refine gate_callee (f := 12) rfl ?_); refine goesL_ (some 69) rfl rfl Try.func12 (by kernel_rfl) rfl #[.int .i64 a0, .int .i64 (wrap64 (-a1))] rfl (by (try simp only [List.map_toArray, List.map_cons, List.map_nil]); first | done | rfl | (simp only [List.length_drop, List.length_take]; rfl)) ?_; (with_reducible refine (money_Mul.calls a0 (wrap64 (-a1)) t110 t111 _ A17.out).mono ?_); rintro e w' ⟨rfl, ⟨nd, rfl⟩⟩; refine ⟨_, rfl, ?_⟩) | (go_at_call 17; (with_reducible refine (quitrentlaw10_goes.calls  t117 _ A37.out).mono ?_); rintro e w38 ⟨rfl, hb⟩; have n0_ := Aside0.mk (below_step (by repeat (first | (with_reducible first | exact HB.out | apply below_alloc | apply pw_below_drewN | apply below_drew1) | exact HB.out)) hb); clear HB; have HB := n0_; clear n0_; (try clear hb); (try clear hb2); (try clear hk); (try clear hi)))
                    go_ret
                    exact ⟨by first | rfl | (simp [errW_none, errW_some] <;> rfl) | (simp [*, errW_none, errW_some] <;> rfl), by repeat (first | (with_reducible first | exact HB.out | apply below_alloc | apply pw_below_drewN | apply below_drew1) | exact HB.out)⟩
                  · rw [if_neg c36] at H
                    have c36b0 : (t110 == (-9223372036854775808)) = false := beq_eq_false_iff_ne.mpr c36
                    have c36b1 : (t110 != (-9223372036854775808)) = true := bne_iff_ne.mpr c36
                    obtain rfl := Option.some.inj H
                    go_wp2_with (first | ((with_reducible refine gate_callee (f := 12) rfl ?_); refine goesL_ (some 69) rfl rfl Try.func12 (by kernel_rfl) rfl #[.int .i64 a0, .int .i64 (wrap64 (-a1))] rfl (by (try simp only [List.map_toArray, List.map_cons, List.map_nil]); first | done | rfl | (simp only [List.length_drop, List.length_take]; rfl)) ?_; (with_reducible refine (money_Mul.calls a0 (wrap64 (-a1)) t110 t111 _ A17.out).mono ?_); rintro e w' ⟨rfl, ⟨nd, rfl⟩⟩; refine ⟨_, rfl, ?_⟩))
                    go_ret
                    exact ⟨by first | rfl | (simp [errW_none, errW_some] <;> rfl) | (simp [*, errW_none, errW_some] <;> rfl), by repeat (first | (with_reducible first | exact HB.out | apply below_alloc | apply pw_below_drewN | apply below_drew1) | exact HB.out)⟩
          · rw [if_neg c18] at H
            have c18b0 : (t102 == 0) = false := beq_eq_false_iff_ne.mpr c18
            have c18b1 : (t102 != 0) = true := bne_iff_ne.mpr c18
            by_cases c39 : t102 = t111
            · rw [if_pos c39] at H
              have c39b0 : (t102 == t111) = true := beq_iff_eq.mpr c39
              have c39b1 : (t102 != t111) = false := bne_eq_false_iff_eq.mpr c39
              clear c39
              replace H := Option.bind_eq_some_iff.mp H
              obtain ⟨t118, A400, H⟩ := H
              replace H : (some t118) = some r := H
              have A40 := Aside0.mk A400
              clear A400
              obtain rfl := Option.some.inj H
              go_wp2_with (first | ((with_reducible refine gate_callee (f := 12) rfl ?_); refine goesL_ (some 69) rfl rfl Try.func12 (by kernel_rfl) rfl #[.int .i64 a0, .int .i64 (wrap64 (-a1))] rfl (by (try simp only [List.map_toArray, List.map_cons, List.map_nil]); first | done | rfl | (simp only [List.length_drop, List.length_take]; rfl)) ?_; (with_reducible refine (money_Mul.calls a0 (wrap64 (-a1)) t110 t111 _ A17.out).mono ?_); rintro e w' ⟨rfl, ⟨nd, rfl⟩⟩; refine ⟨_, rfl, ?_⟩) | (go_at_call 17; (with_reducible refine (quitrentlaw10_goes.calls  t118 _ A40.out).mono ?_); rintro e w41 ⟨rfl, hb⟩; have n0_ := Aside0.mk (below_step (by repeat (first | (with_reducible first | exact HB.out | apply below_alloc | apply pw_below_drewN | apply below_drew1) | exact HB.out)) hb); clear HB; have HB := n0_; clear n0_; (try clear hb); (try clear hb2); (try clear hk); (try clear hi)))
              go_ret
              exact ⟨by first | rfl | (simp [errW_none, errW_some] <;> rfl) | (simp [*, errW_none, errW_some] <;> rfl), by repeat (first | (with_reducible first | exact HB.out | apply below_alloc | apply pw_below_drewN | apply below_drew1) | exact HB.out)⟩
            · rw [if_neg c39] at H
              have c39b0 : (t102 == t111) = false := beq_eq_false_iff_ne.mpr c39
              have c39b1 : (t102 != t111) = true := bne_iff_ne.mpr c39
              by_cases c42 : t101 = (-9223372036854775808)
              · rw [if_pos c42] at H
                have c42b0 : (t101 == (-9223372036854775808)) = true := beq_iff_eq.mpr c42
                have c42b1 : (t101 != (-9223372036854775808)) = false := bne_eq_false_iff_eq.mpr c42
                clear c42
                replace H := Option.bind_eq_some_iff.mp H
                obtain ⟨t119, A430, H⟩ := H
                replace H : (some t119) = some r := H
                have A43 := Aside0.mk A430
                clear A430
                obtain rfl := Option.some.inj H
                go_wp2_with (first | ((with_reducible refine gate_callee (f := 12) rfl ?_); refine goesL_ (some 69) rfl rfl Try.func12 (by kernel_rfl) rfl #[.int .i64 a0, .int .i64 (wrap64 (-a1))] rfl (by (try simp only [List.map_toArray, List.map_cons, List.map_nil]); first | done | rfl | (simp only [List.length_drop, List.length_take]; rfl)) ?_; (with_reducible refine (money_Mul.calls a0 (wrap64 (-a1)) t110 t111 _ A17.out).mono ?_); rintro e w' ⟨rfl, ⟨nd, rfl⟩⟩; refine ⟨_, rfl, ?_⟩) | (go_at_call 17; (with_reducible refine (quitrentlaw10_goes.calls  t119 _ A43.out).mono ?_); rintro e w44 ⟨rfl, hb⟩; have n0_ := Aside0.mk (below_step (by repeat (first | (with_reducible first | exact HB.out | apply below_alloc | apply pw_below_drewN | apply below_drew1) | exact HB.out)) hb); clear HB; have HB := n0_; clear n0_; (try clear hb); (try clear hb2); (try clear hk); (try clear hi)))
                go_ret
                exact ⟨by first | rfl | (simp [errW_none, errW_some] <;> rfl) | (simp [*, errW_none, errW_some] <;> rfl), by repeat (first | (with_reducible first | exact HB.out | apply below_alloc | apply pw_below_drewN | apply below_drew1) | exact HB.out)⟩
              · rw [if_neg c42] at H
                have c42b0 : (t101 == (-9223372036854775808)) = false := beq_eq_false_iff_ne.mpr c42
                have c42b1 : (t101 != (-9223372036854775808)) = true := bne_iff_ne.mpr c42
                by_cases c45 : t110 = (-9223372036854775808)
                · rw [if_pos c45] at H
                  have c45b0 : (t110 == (-9223372036854775808)) = true := beq_iff_eq.mpr c45
                  have c45b1 : (t110 != (-9223372036854775808)) = false := bne_eq_false_iff_eq.mpr c45
                  clear c45
                  replace H := Option.bind_eq_some_iff.mp H
                  obtain ⟨t120, A460, H⟩ := H
                  replace H : (some t120) = some r := H
                  have A46 := Aside0.mk A460
                  clear A460
                  obtain rfl := Option.some.inj H
                  go_wp2_with (first | ((with_reducible refine gate_callee (f := 12) rfl ?_); refine goesL_ (some 69) rfl rfl Try.func12 (by kernel_rfl) rfl #[.int .i64 a0, .int .i64 (wrap64 (-a1))] rfl (by (try simp only [List.map_toArray, List.map_cons, List.map_nil]); first | done | rfl | (simp only [List.length_drop, List.length_take]; rfl)) ?_; (with_reducible refine (money_Mul.calls a0 (wrap64 (-a1)) t110 t111 _ A17.out).mono ?_); rintro e w' ⟨rfl, ⟨nd, rfl⟩⟩; refine ⟨_, rfl, ?_⟩) | (go_at_call 17; (with_reducible refine (quitrentlaw10_goes.calls  t120 _ A46.out).mono ?_); rintro e w47 ⟨rfl, hb⟩; have n0_ := Aside0.mk (below_step (by repeat (first | (with_reducible first | exact HB.out | apply below_alloc | apply pw_below_drewN | apply below_drew1) | exact HB.out)) hb); clear HB; have HB := n0_; clear n0_; (try clear hb); (try clear hb2); (try clear hk); (try clear hi)))
                  go_ret
                  exact ⟨by first | rfl | (simp [errW_none, errW_some] <;> rfl) | (simp [*, errW_none, errW_some] <;> rfl), by repeat (first | (with_reducible first | exact HB.out | apply below_alloc | apply pw_below_drewN | apply below_drew1) | exact HB.out)⟩
                · rw [if_neg c45] at H
                  have c45b0 : (t110 == (-9223372036854775808)) = false := beq_eq_false_iff_ne.mpr c45
                  have c45b1 : (t110 != (-9223372036854775808)) = true := bne_iff_ne.mpr c45
                  obtain rfl := Option.some.inj H
                  go_wp2_with (first | ((with_reducible refine gate_callee (f := 12) rfl ?_); refine goesL_ (some 69) rfl rfl Try.func12 (by kernel_rfl) rfl #[.int .i64 a0, .int .i64 (wrap64 (-a1))] rfl (by (try simp only [List.map_toArray, List.map_cons, List.map_nil]); first | done | rfl | (simp only [List.length_drop, List.length_take]; rfl)) ?_; (with_reducible refine (money_Mul.calls a0 (wrap64 (-a1)) t110 t111 _ A17.out).mono ?_); rintro e w' ⟨rfl, ⟨nd, rfl⟩⟩; refine ⟨_, rfl, ?_⟩))
                  go_ret
                  exact ⟨by first | rfl | (simp [errW_none, errW_some] <;> rfl) | (simp [*, errW_none, errW_some] <;> rfl), by repeat (first | (with_reducible first | exact HB.out | apply below_alloc | apply pw_below_drewN | apply below_drew1) | exact HB.out)⟩

/-- THE ONE PURE STATEMENT of quitrentlaw10_MoneySigns: yours. -/
def quitrentlaw10_MoneySigns.Pure : Prop := ∀ (a0 : Int) (a1 : Int), (Lit.int .i64 a0).wf = true → (Lit.int .i64 a1).wf = true → ∃ k, quitrentlaw10_MoneySigns.f k a0 a1 = some true
theorem quitrentlaw10_MoneySigns.walk (P : quitrentlaw10_MoneySigns.Pure) (a0 : Int) (a1 : Int) (w : World) (w0 : (Lit.int .i64 a0).wf = true) (w1 : (Lit.int .i64 a1).wf = true) :
    Calls Try.prog 7 #[.int .i64 a0, .int .i64 a1] w fun e w' => e = .returned (.bool true) ∧ Below w.heap.size w w' := by
  obtain ⟨k, h⟩ := P a0 a1 w0 w1
  refine (quitrentlaw10_MoneySigns.calls k a0 a1 true w h).mono ?_
  rintro e w' ⟨rfl, hd⟩
  exact ⟨rfl, hd⟩

end Go.Proofs.Ytdhiaagjbdbnhaa.PZSigns
