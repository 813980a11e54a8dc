-- Written by wip/print2.sh of this repo (a patched copy of the kit's print, with contracts proved by hand).
import Derived.Test.YtdhiaagjbdbnhaaPZBackx0
import Derived.Test.YtdhiaagjbdbnhaaPart
namespace Go.Proofs.Ytdhiaagjbdbnhaa.PZBack
open Go.RowKit Go.Proofs.YtdhiaagjbdbnhaaW.PrintWords Go.Proofs.YtdhiaagjbdbnhaaW.PrintLast Go.Proofs.YtdhiaagjbdbnhaaW.PrintMore
attribute [local go_sem] max2_int min2_int max_two min_two max_three min_three max_four min_four   -- for this text's walks alone
set_option linter.unusedVariables false
set_option linter.unusedSimpArgs false

open Go.Proofs.Ytdhiaagjbdbnhaa.Ext
/-! ### quitrentlaw10_MoneyBack: function 5 -/
def quitrentlaw10_MoneyBack.j0 : Nat → Int → Int → Int → Int → Int → Int → Bool → Option (Bool)
  | 0, _, _, _, _, _, _, _ => none
  | k + 1, x0, x1, x2, x7, x8, x9, x29 => if x29 = true then (if x9 = 1 then (if x7 = 0 then (if x8 = 0 then ((quitrentlaw10_goes.f).bind fun t104 => (some t104)) else (some false)) else (some false)) else (some false)) else ((money_Mul.f x0 x1).bind fun bt105 => (if bt105.2 = 0 then (if x9 = 0 then (if x2 = 0 then (none) else (if x7 = (wrap64 (Int.tdiv bt105.1 x2)) then (if x8 = (Int.tmod bt105.1 x2) then ((quitrentlaw10_goes.f).bind fun t107 => (some t107)) else (some false)) else (some false))) else (some false)) else (if x9 = 0 then (if x8 ≥ 0 then (if x8 < x2 then (if x7 ≥ 0 then (if (IntKind.u64.wrap ((IntKind.u64.wrap ((IntKind.u64.wrap (x7)) * (IntKind.u64.wrap (x2)))) + (IntKind.u64.wrap (x8)))) = (IntKind.u64.wrap ((IntKind.u64.wrap (x0)) * (IntKind.u64.wrap (x1)))) then ((quitrentlaw10_goes.f).bind fun t108 => (some t108)) else (some false)) else (some false)) else (some false)) else (some false)) else (if x9 = 30 then (if x7 = 0 then (if x8 = 0 then ((quitrentlaw10_goes.f).bind fun t109 => (some t109)) else (some false)) else (some false)) else (some false)))))
def quitrentlaw10_MoneyBack.f (k : Nat) (a0 : Int) (a1 : Int) (a2 : Int) : Option (Bool) := (money_Part.f a0 a1 a2).bind fun bt101 => (if a0 < 0 then (quitrentlaw10_MoneyBack.j0 k a0 a1 a2 bt101.1 bt101.2.1 bt101.2.2 true) else (if a1 < 0 then (quitrentlaw10_MoneyBack.j0 k a0 a1 a2 bt101.1 bt101.2.1 bt101.2.2 true) else (quitrentlaw10_MoneyBack.j0 k a0 a1 a2 bt101.1 bt101.2.1 bt101.2.2 (decide (a2 < 1)))))
theorem quitrentlaw10_MoneyBack.mono_l : ∀ k, (∀ y0 y1 y2 y3 y4 y5 y6, LeO (quitrentlaw10_MoneyBack.j0 k y0 y1 y2 y3 y4 y5 y6) (quitrentlaw10_MoneyBack.j0 (k + 1) y0 y1 y2 y3 y4 y5 y6))
  | 0 => fun _ _ _ _ _ _ _ r h => by simp [quitrentlaw10_MoneyBack.j0] at h
  | k + 1 => by
    have ih0 := quitrentlaw10_MoneyBack.mono_l k
    · intro y0 y1 y2 y3 y4 y5 y6
      unfold quitrentlaw10_MoneyBack.j0
      repeat' first
      | (with_reducible exact ih0 _ _ _ _ _ _ _)
      | (with_reducible exact LeO.refl _)
      | (with_reducible exact LeO.none _)
      | (with_reducible refine LeO.ite ?_ ?_)
      | (with_reducible refine LeO.bind ?_ (fun _ => ?_))
      | exact ih0 _ _ _ _ _ _ _
      | exact LeO.none _
      | refine LeO.ite ?_ ?_
      | refine LeO.bind ?_ (fun _ => ?_)
theorem quitrentlaw10_MoneyBack.mono : ∀ a0 a1 a2 k, LeO (quitrentlaw10_MoneyBack.f k a0 a1 a2) (quitrentlaw10_MoneyBack.f (k + 1) a0 a1 a2) := by
  intro a0 a1 a2 k
  have ih0 := quitrentlaw10_MoneyBack.mono_l k
  unfold quitrentlaw10_MoneyBack.f
  repeat' first
      | (with_reducible exact ih0 _ _ _ _ _ _ _)
      | (with_reducible exact LeO.refl _)
      | (with_reducible exact LeO.none _)
      | (with_reducible refine LeO.ite ?_ ?_)
      | (with_reducible refine LeO.bind ?_ (fun _ => ?_))
      | exact ih0 _ _ _ _ _ _ _
      | exact LeO.none _
      | refine LeO.ite ?_ ?_
      | refine LeO.bind ?_ (fun _ => ?_)
set_option maxHeartbeats 8000000 in
set_option maxRecDepth 100000 in
theorem quitrentlaw10_MoneyBack.calls (k : Nat) (a0 : Int) (a1 : Int) (a2 : Int) (r : Bool) (w : World) (h : quitrentlaw10_MoneyBack.f k a0 a1 a2 = some r) :
    Calls Try.prog 5 #[.int .i64 a0, .int .i64 a1, .int .i64 a2] w fun e w' => e = .returned (.bool r) ∧ Below w.heap.size w w' := by
  have HB := Aside0.mk (Below.refl w.heap.size w)
  have H : ((money_Part.f a0 a1 a2).bind fun bt101 => (if a0 < 0 then (quitrentlaw10_MoneyBack.j0 k a0 a1 a2 bt101.1 bt101.2.1 bt101.2.2 true) else (if a1 < 0 then (quitrentlaw10_MoneyBack.j0 k a0 a1 a2 bt101.1 bt101.2.1 bt101.2.2 true) else (quitrentlaw10_MoneyBack.j0 k a0 a1 a2 bt101.1 bt101.2.1 bt101.2.2 (decide (a2 < 1)))))) = some r := h
  clear h
  replace H := Option.bind_eq_some_iff.mp H
  obtain ⟨⟨t101, t102, t103⟩, A40, H⟩ := H
  replace H : (if a0 < 0 then (quitrentlaw10_MoneyBack.j0 k a0 a1 a2 t101 t102 t103 true) else (if a1 < 0 then (quitrentlaw10_MoneyBack.j0 k a0 a1 a2 t101 t102 t103 true) else (quitrentlaw10_MoneyBack.j0 k a0 a1 a2 t101 t102 t103 (decide (a2 < 1))))) = some r := H
  have A4 := Aside0.mk A40
  clear A40
  have HC5 := Aside0.mk H
  clear H
  go_enter Try.func5, Try.ntmps5
  go_upto_region 2 with (first | ((with_reducible refine gate_callee (f := 18) rfl ?_); refine goesL_ (some 16) rfl rfl Try.func18 (by kernel_rfl) rfl #[.int .i64 a0, .int .i64 a1, .int .i64 a2] rfl (by (try simp only [List.map_toArray, List.map_cons, List.map_nil]); first | done | rfl | (simp only [List.length_drop, List.length_take]; rfl)) ?_; (with_reducible refine (money_Part.calls a0 a1 a2 t101 t102 t103 _ A4.out).mono ?_); rintro e w' ⟨rfl, ⟨nd, rfl⟩⟩; refine ⟨_, rfl, ?_⟩))
  (try simp only [Act.put, List.setIfInBounds_toArray, List.set_cons_zero, List.set_cons_succ])
  go_cut [29] (fun v29 wc => ∃ (kq : Nat) (x29_4 : Bool), v29 = .bool x29_4 ∧ Aside0 (quitrentlaw10_MoneyBack.j0 kq a0 a1 a2 t101 t102 t103 x29_4 = some r) ∧ Aside0 (kq ≤ k) ∧ Aside0 (Below w.heap.size w wc))
  case first =>
    have H := HC5.out
    clear HC5
    by_cases c6 : a0 < 0
    · rw [if_pos c6] at H
      have c6b0 : decide (a0 < 0) = true := decide_eq_true c6
      clear c6
      (first | rw [c6b0] | (simp only [i64_w, i32_w]; rw [c6b0]) | skip)
      have H' := Aside0.mk H
      clear H
      go_wp2
      go_meet
      case rel => exact ⟨_, (true), (by first | rfl | (simp; done) | (simp [*]; done)), H', ⟨by first | omega | exact Nat.le_refl _⟩, ⟨by repeat (first | (with_reducible first | exact HB.out | apply below_alloc | apply pw_below_drewN | apply below_drew1) | exact HB.out)⟩⟩
    · rw [if_neg c6] at H
      have c6b0 : decide (a0 < 0) = false := decide_eq_false c6
      clear c6
      (first | rw [c6b0] | (simp only [i64_w, i32_w]; rw [c6b0]) | skip)
      by_cases c7 : a1 < 0
      · rw [if_pos c7] at H
        have c7b0 : decide (a1 < 0) = true := decide_eq_true c7
        clear c7
        have H' := Aside0.mk H
        clear H
        go_wp2
        go_meet
        case rel => exact ⟨_, (true), (by first | rfl | (simp; done) | (simp [*]; done)), H', ⟨by first | omega | exact Nat.le_refl _⟩, ⟨by repeat (first | (with_reducible first | exact HB.out | apply below_alloc | apply pw_below_drewN | apply below_drew1) | exact HB.out)⟩⟩
      · rw [if_neg c7] at H
        have c7b0 : decide (a1 < 0) = false := decide_eq_false c7
        clear c7
        have H' := Aside0.mk H
        clear H
        go_wp2
        go_meet
        case rel => exact ⟨_, (decide (a2 < 1)), (by first | rfl | (simp; done) | (simp [*]; done)), H', ⟨by first | omega | exact Nat.le_refl _⟩, ⟨by repeat (first | (with_reducible first | exact HB.out | apply below_alloc | apply pw_below_drewN | apply below_drew1) | exact HB.out)⟩⟩
  case rest =>
    clear HC5
    try clear c1
    try clear p2
    try clear c5
    try clear c6
    try clear c6b0
    try clear c7
    try clear c7b0
    obtain ⟨kq, x29_4, rfl, HA, HJ4, HB⟩ := hcut
    cases kq with
    | zero => exact absurd HA.out (by simp [quitrentlaw10_MoneyBack.j0])
    | succ kj4 =>
      have H := HA.out
      clear HA
      simp only [quitrentlaw10_MoneyBack.j0] at H
      by_cases c8 : x29_4 = true
      · subst c8
        have H1 : (if t103 = 1 then (if t101 = 0 then (if t102 = 0 then ((quitrentlaw10_goes.f).bind fun t104 => (some t104)) else (some false)) else (some false)) else (some false)) = some r := by rw [if_pos rfl] at H; exact H
        clear H
        have H := H1
        clear H1
        by_cases c9 : t103 = 1
        · rw [if_pos c9] at H
          have c9b0 : (t103 == 1) = true := beq_iff_eq.mpr c9
          have c9b1 : (t103 != 1) = false := bne_eq_false_iff_eq.mpr c9
          clear c9
          by_cases c10 : t101 = 0
          · rw [if_pos c10] at H
            have c10b0 : (t101 == 0) = true := beq_iff_eq.mpr c10
            have c10b1 : (t101 != 0) = false := bne_eq_false_iff_eq.mpr c10
            clear c10
            by_cases c11 : t102 = 0
            · rw [if_pos c11] at H
              have c11b0 : (t102 == 0) = true := beq_iff_eq.mpr c11
              have c11b1 : (t102 != 0) = false := bne_eq_false_iff_eq.mpr c11
              clear c11
              replace H := Option.bind_eq_some_iff.mp H
              obtain ⟨t104, A120, H⟩ := H
              replace H : (some t104) = some r := H
              have A12 := Aside0.mk A120
              clear A120
              obtain rfl := Option.some.inj H
              go_wp2_with (first | (go_at_call 17; (with_reducible refine (quitrentlaw10_goes.calls  t104 _ A12.out).mono ?_); rintro e w13 ⟨rfl, hb⟩; have n0_ := Aside0.mk (below_step (by repeat (first | (with_reducible first | exact HB.out | apply below_alloc | apply pw_below_drewN | apply below_drew1) | exact HB.out)) hb); clear HB; have HB := n0_; clear n0_; (try clear hb); (try clear hb2); (try clear hk); (try clear hi)))
              go_ret
              exact ⟨by first | rfl | (simp [errW_none, errW_some] <;> rfl) | (simp [*, errW_none, errW_some] <;> rfl), by repeat (first | (with_reducible first | exact HB.out | apply below_alloc | apply pw_below_drewN | apply below_drew1) | exact HB.out)⟩
            · rw [if_neg c11] at H
              have c11b0 : (t102 == 0) = false := beq_eq_false_iff_ne.mpr c11
              have c11b1 : (t102 != 0) = true := bne_iff_ne.mpr c11
              obtain rfl := Option.some.inj H
              go_wp2
              go_ret
              exact ⟨by first | rfl | (simp [errW_none, errW_some] <;> rfl) | (simp [*, errW_none, errW_some] <;> rfl), by repeat (first | (with_reducible first | exact HB.out | apply below_alloc | apply pw_below_drewN | apply below_drew1) | exact HB.out)⟩
          · rw [if_neg c10] at H
            have c10b0 : (t101 == 0) = false := beq_eq_false_iff_ne.mpr c10
            have c10b1 : (t101 != 0) = true := bne_iff_ne.mpr c10
            obtain rfl := Option.some.inj H
            go_wp2
            go_ret
            exact ⟨by first | rfl | (simp [errW_none, errW_some] <;> rfl) | (simp [*, errW_none, errW_some] <;> rfl), by repeat (first | (with_reducible first | exact HB.out | apply below_alloc | apply pw_below_drewN | apply below_drew1) | exact HB.out)⟩
        · rw [if_neg c9] at H
          have c9b0 : (t103 == 1) = false := beq_eq_false_iff_ne.mpr c9
          have c9b1 : (t103 != 1) = true := bne_iff_ne.mpr c9
          obtain rfl := Option.some.inj H
          go_wp2
          go_ret
          exact ⟨by first | rfl | (simp [errW_none, errW_some] <;> rfl) | (simp [*, errW_none, errW_some] <;> rfl), by repeat (first | (with_reducible first | exact HB.out | apply below_alloc | apply pw_below_drewN | apply below_drew1) | exact HB.out)⟩
      · replace c8 := Bool.eq_false_iff.mpr c8
        subst c8
        have H1 : ((money_Mul.f a0 a1).bind fun bt105 => (if bt105.2 = 0 then (if t103 = 0 then (if a2 = 0 then (none) else (if t101 = (wrap64 (Int.tdiv bt105.1 a2)) then (if t102 = (Int.tmod bt105.1 a2) then ((quitrentlaw10_goes.f).bind fun t107 => (some t107)) else (some false)) else (some false))) else (some false)) else (if t103 = 0 then (if t102 ≥ 0 then (if t102 < a2 then (if t101 ≥ 0 then (if (IntKind.u64.wrap ((IntKind.u64.wrap ((IntKind.u64.wrap (t101)) * (IntKind.u64.wrap (a2)))) + (IntKind.u64.wrap (t102)))) = (IntKind.u64.wrap ((IntKind.u64.wrap (a0)) * (IntKind.u64.wrap (a1)))) then ((quitrentlaw10_goes.f).bind fun t108 => (some t108)) else (some false)) else (some false)) else (some false)) else (some false)) else (if t103 = 30 then (if t101 = 0 then (if t102 = 0 then ((quitrentlaw10_goes.f).bind fun t109 => (some t109)) else (some false)) else (some false)) else (some false))))) = some r := by rw [if_neg (show ¬ (false = true) by decide)] at H; exact H
        clear H
        have H := H1
        clear H1
        replace H := Option.bind_eq_some_iff.mp H
        obtain ⟨⟨t105, t106⟩, A140, H⟩ := H
        replace H : (if t106 = 0 then (if t103 = 0 then (if a2 = 0 then (none) else (if t101 = (wrap64 (Int.tdiv t105 a2)) then (if t102 = (Int.tmod t105 a2) then ((quitrentlaw10_goes.f).bind fun t107 => (some t107)) else (some false)) else (some false))) else (some false)) else (if t103 = 0 then (if t102 ≥ 0 then (if t102 < a2 then (if t101 ≥ 0 then (if (IntKind.u64.wrap ((IntKind.u64.wrap ((IntKind.u64.wrap (t101)) * (IntKind.u64.wrap (a2)))) + (IntKind.u64.wrap (t102)))) = (IntKind.u64.wrap ((IntKind.u64.wrap (a0)) * (IntKind.u64.wrap (a1)))) then ((quitrentlaw10_goes.f).bind fun t108 => (some t108)) else (some false)) else (some false)) else (some false)) else (some false)) else (if t103 = 30 then (if t101 = 0 then (if t102 = 0 then ((quitrentlaw10_goes.f).bind fun t109 => (some t109)) else (some false)) else (some false)) else (some false)))) = some r := H
        have A14 := Aside0.mk A140
        clear A140
        by_cases c15 : t106 = 0
        · rw [if_pos c15] at H
          have c15b0 : (t106 == 0) = true := beq_iff_eq.mpr c15
          have c15b1 : (t106 != 0) = false := bne_eq_false_iff_eq.mpr c15
          clear c15
          by_cases c16 : t103 = 0
          · rw [if_pos c16] at H
            have c16b0 : (t103 == 0) = true := beq_iff_eq.mpr c16
            have c16b1 : (t103 != 0) = false := bne_eq_false_iff_eq.mpr c16
            clear c16
            by_cases c17 : a2 = 0
            · rw [if_pos c17] at H
              exact absurd H (by simp)
            · rw [if_neg c17] at H
              have c17b0 : (a2 == 0) = false := beq_eq_false_iff_ne.mpr c17
              have c17b1 : (a2 != 0) = true := bne_iff_ne.mpr c17
              by_cases c18 : t101 = (wrap64 (Int.tdiv t105 a2))
              · rw [if_pos c18] at H
                have c18b0 : (t101 == (wrap64 (Int.tdiv t105 a2))) = true := beq_iff_eq.mpr c18
                have c18b1 : (t101 != (wrap64 (Int.tdiv t105 a2))) = false := bne_eq_false_iff_eq.mpr c18
                clear c18
                by_cases c19 : t102 = (Int.tmod t105 a2)
                · rw [if_pos c19] at H
                  have c19b0 : (t102 == (Int.tmod t105 a2)) = true := beq_iff_eq.mpr c19
                  have c19b1 : (t102 != (Int.tmod t105 a2)) = false := bne_eq_false_iff_eq.mpr c19
                  clear c19
                  replace H := Option.bind_eq_some_iff.mp H
                  obtain ⟨t107, A200, H⟩ := H
                  replace H : (some t107) = some r := H
                  have A20 := Aside0.mk A200
                  clear A200
                  obtain rfl := Option.some.inj H
                  go_wp2_with (first | ((with_reducible refine gate_callee (f := 12) rfl ?_); refine goesL_ (some 46) rfl rfl Try.func12 (by kernel_rfl) rfl #[.int .i64 a0, .int .i64 a1] rfl (by (try simp only [List.map_toArray, List.map_cons, List.map_nil]); first | done | rfl | (simp only [List.length_drop, List.length_take]; rfl)) ?_; (with_reducible refine (money_Mul.calls a0 a1 t105 t106 _ A14.out).mono ?_); rintro e w' ⟨rfl, ⟨nd, rfl⟩⟩; refine ⟨_, rfl, ?_⟩) | (go_at_call 17; (with_reducible refine (quitrentlaw10_goes.calls  t107 _ A20.out).mono ?_); rintro e w21 ⟨rfl, hb⟩; have n0_ := Aside0.mk (below_step (by repeat (first | (with_reducible first | exact HB.out | apply below_alloc | apply pw_below_drewN | apply below_drew1) | exact HB.out)) hb); clear HB; have HB := n0_; clear n0_; (try clear hb); (try clear hb2); (try clear hk); (try clear hi)))
                  go_ret
                  exact ⟨by first | rfl | (simp [errW_none, errW_some] <;> rfl) | (simp [*, errW_none, errW_some] <;> rfl), by repeat (first | (with_reducible first | exact HB.out | apply below_alloc | apply pw_below_drewN | apply below_drew1) | exact HB.out)⟩
                · rw [if_neg c19] at H
                  have c19b0 : (t102 == (Int.tmod t105 a2)) = false := beq_eq_false_iff_ne.mpr c19
                  have c19b1 : (t102 != (Int.tmod t105 a2)) = true := bne_iff_ne.mpr c19
                  obtain rfl := Option.some.inj H
                  go_wp2_with (first | ((with_reducible refine gate_callee (f := 12) rfl ?_); refine goesL_ (some 46) rfl rfl Try.func12 (by kernel_rfl) rfl #[.int .i64 a0, .int .i64 a1] rfl (by (try simp only [List.map_toArray, List.map_cons, List.map_nil]); first | done | rfl | (simp only [List.length_drop, List.length_take]; rfl)) ?_; (with_reducible refine (money_Mul.calls a0 a1 t105 t106 _ A14.out).mono ?_); rintro e w' ⟨rfl, ⟨nd, rfl⟩⟩; refine ⟨_, rfl, ?_⟩))
                  go_ret
                  exact ⟨by first | rfl | (simp [errW_none, errW_some] <;> rfl) | (simp [*, errW_none, errW_some] <;> rfl), by repeat (first | (with_reducible first | exact HB.out | apply below_alloc | apply pw_below_drewN | apply below_drew1) | exact HB.out)⟩
              · rw [if_neg c18] at H
                have c18b0 : (t101 == (wrap64 (Int.tdiv t105 a2))) = false := beq_eq_false_iff_ne.mpr c18
                have c18b1 : (t101 != (wrap64 (Int.tdiv t105 a2))) = true := bne_iff_ne.mpr c18
                obtain rfl := Option.some.inj H
                go_wp2_with (first | ((with_reducible refine gate_callee (f := 12) rfl ?_); refine goesL_ (some 46) rfl rfl Try.func12 (by kernel_rfl) rfl #[.int .i64 a0, .int .i64 a1] rfl (by (try simp only [List.map_toArray, List.map_cons, List.map_nil]); first | done | rfl | (simp only [List.length_drop, List.length_take]; rfl)) ?_; (with_reducible refine (money_Mul.calls a0 a1 t105 t106 _ A14.out).mono ?_); rintro e w' ⟨rfl, ⟨nd, rfl⟩⟩; refine ⟨_, rfl, ?_⟩))
                go_ret
                exact ⟨by first | rfl | (simp [errW_none, errW_some] <;> rfl) | (simp [*, errW_none, errW_some] <;> rfl), by repeat (first | (with_reducible first | exact HB.out | apply below_alloc | apply pw_below_drewN | apply below_drew1) | exact HB.out)⟩
          · rw [if_neg c16] at H
            have c16b0 : (t103 == 0) = false := beq_eq_false_iff_ne.mpr c16
            have c16b1 : (t103 != 0) = true := bne_iff_ne.mpr c16
            obtain rfl := Option.some.inj H
            go_wp2_with (first | ((with_reducible refine gate_callee (f := 12) rfl ?_); refine goesL_ (some 46) rfl rfl Try.func12 (by kernel_rfl) rfl #[.int .i64 a0, .int .i64 a1] rfl (by (try simp only [List.map_toArray, List.map_cons, List.map_nil]); first | done | rfl | (simp only [List.length_drop, List.length_take]; rfl)) ?_; (with_reducible refine (money_Mul.calls a0 a1 t105 t106 _ A14.out).mono ?_); rintro e w' ⟨rfl, ⟨nd, rfl⟩⟩; refine ⟨_, rfl, ?_⟩))
            go_ret
            exact ⟨by first | rfl | (simp [errW_none, errW_some] <;> rfl) | (simp [*, errW_none, errW_some] <;> rfl), by repeat (first | (with_reducible first | exact HB.out | apply below_alloc | apply pw_below_drewN | apply below_drew1) | exact HB.out)⟩
        · rw [if_neg c15] at H
          have c15b0 : (t106 == 0) = false := beq_eq_false_iff_ne.mpr c15
          have c15b1 : (t106 != 0) = true := bne_iff_ne.mpr c15
          by_cases c22 : t103 = 0
          · rw [if_pos c22] at H
            have c22b0 : (t103 == 0) = true := beq_iff_eq.mpr c22
            have c22b1 : (t103 != 0) = false := bne_eq_false_iff_eq.mpr c22
            clear c22
            by_cases c23 : t102 ≥ 0
            · rw [if_pos c23] at H
              have c23b0 : decide (0 ≤ t102) = true := decide_eq_true c23
              clear c23
              by_cases c24 : t102 < a2
              · rw [if_pos c24] at H
                have c24b0 : decide (t102 < a2) = true := decide_eq_true c24
                clear c24
                by_cases c25 : t101 ≥ 0
                · rw [if_pos c25] at H
                  have c25b0 : decide (0 ≤ t101) = true := decide_eq_true c25
                  clear c25
                  by_cases c26 : (IntKind.u64.wrap ((IntKind.u64.wrap ((IntKind.u64.wrap (t101)) * (IntKind.u64.wrap (a2)))) + (IntKind.u64.wrap (t102)))) = (IntKind.u64.wrap ((IntKind.u64.wrap (a0)) * (IntKind.u64.wrap (a1))))
                  · rw [if_pos c26] at H
                    have c26b0 : ((IntKind.u64.wrap ((IntKind.u64.wrap ((IntKind.u64.wrap (t101)) * (IntKind.u64.wrap (a2)))) + (IntKind.u64.wrap (t102)))) == (IntKind.u64.wrap ((IntKind.u64.wrap (a0)) * (IntKind.u64.wrap (a1))))) = true := beq_iff_eq.mpr c26
                    have c26b1 : ((IntKind.u64.wrap ((IntKind.u64.wrap ((IntKind.u64.wrap (t101)) * (IntKind.u64.wrap (a2)))) + (IntKind.u64.wrap (t102)))) != (IntKind.u64.wrap ((IntKind.u64.wrap (a0)) * (IntKind.u64.wrap (a1))))) = false := bne_eq_false_iff_eq.mpr c26
                    clear c26
                    replace H := Option.bind_eq_some_iff.mp H
                    obtain ⟨t108, A270, H⟩ := H
                    replace H : (some t108) = some r := H
                    have A27 := Aside0.mk A270
                    clear A270
                    obtain rfl := Option.some.inj H
                    go_wp2_with (first | ((with_reducible refine gate_callee (f := 12) rfl ?_); refine goesL_ (some 46) rfl rfl Try.func12 (by kernel_rfl) rfl #[.int .i64 a0, .int .i64 a1] rfl (by (try simp only [List.map_toArray, List.map_cons, List.map_nil]); first | done | rfl | (simp only [List.length_drop, List.length_take]; rfl)) ?_; (with_reducible refine (money_Mul.calls a0 a1 t105 t106 _ A14.out).mono ?_); rintro e w' ⟨rfl, ⟨nd, rfl⟩⟩; refine ⟨_, rfl, ?_⟩) | (go_at_call 17; (with_reducible refine (quitrentlaw10_goes.calls  t108 _ A27.out).mono ?_); rintro e w28 ⟨rfl, hb⟩; have n0_ := Aside0.mk (below_step (by repeat (first | (with_reducible first | exact HB.out | apply below_alloc | apply pw_below_drewN | apply below_drew1) | exact HB.out)) hb); clear HB; have HB := n0_; clear n0_; (try clear hb); (try clear hb2); (try clear hk); (try clear hi)))
                    go_ret
                    exact ⟨by first | rfl | (simp [errW_none, errW_some] <;> rfl) | (simp [*, errW_none, errW_some] <;> rfl), by repeat (first | (with_reducible first | exact HB.out | apply below_alloc | apply pw_below_drewN | apply below_drew1) | exact HB.out)⟩
                  · rw [if_neg c26] at H
                    have c26b0 : ((IntKind.u64.wrap ((IntKind.u64.wrap ((IntKind.u64.wrap (t101)) * (IntKind.u64.wrap (a2)))) + (IntKind.u64.wrap (t102)))) == (IntKind.u64.wrap ((IntKind.u64.wrap (a0)) * (IntKind.u64.wrap (a1))))) = false := beq_eq_false_iff_ne.mpr c26
                    have c26b1 : ((IntKind.u64.wrap ((IntKind.u64.wrap ((IntKind.u64.wrap (t101)) * (IntKind.u64.wrap (a2)))) + (IntKind.u64.wrap (t102)))) != (IntKind.u64.wrap ((IntKind.u64.wrap (a0)) * (IntKind.u64.wrap (a1))))) = true := bne_iff_ne.mpr c26
                    obtain rfl := Option.some.inj H
                    go_wp2_with (first | ((with_reducible refine gate_callee (f := 12) rfl ?_); refine goesL_ (some 46) rfl rfl Try.func12 (by kernel_rfl) rfl #[.int .i64 a0, .int .i64 a1] rfl (by (try simp only [List.map_toArray, List.map_cons, List.map_nil]); first | done | rfl | (simp only [List.length_drop, List.length_take]; rfl)) ?_; (with_reducible refine (money_Mul.calls a0 a1 t105 t106 _ A14.out).mono ?_); rintro e w' ⟨rfl, ⟨nd, rfl⟩⟩; refine ⟨_, rfl, ?_⟩))
                    go_ret
                    exact ⟨by first | rfl | (simp [errW_none, errW_some] <;> rfl) | (simp [*, errW_none, errW_some] <;> rfl), by repeat (first | (with_reducible first | exact HB.out | apply below_alloc | apply pw_below_drewN | apply below_drew1) | exact HB.out)⟩
                · rw [if_neg c25] at H
                  have c25b0 : decide (0 ≤ t101) = false := decide_eq_false c25
                  clear c25
                  obtain rfl := Option.some.inj H
                  go_wp2_with (first | ((with_reducible refine gate_callee (f := 12) rfl ?_); refine goesL_ (some 46) rfl rfl Try.func12 (by kernel_rfl) rfl #[.int .i64 a0, .int .i64 a1] rfl (by (try simp only [List.map_toArray, List.map_cons, List.map_nil]); first | done | rfl | (simp only [List.length_drop, List.length_take]; rfl)) ?_; (with_reducible refine (money_Mul.calls a0 a1 t105 t106 _ A14.out).mono ?_); rintro e w' ⟨rfl, ⟨nd, rfl⟩⟩; refine ⟨_, rfl, ?_⟩))
                  go_ret
                  exact ⟨by first | rfl | (simp [errW_none, errW_some] <;> rfl) | (simp [*, errW_none, errW_some] <;> rfl), by repeat (first | (with_reducible first | exact HB.out | apply below_alloc | apply pw_below_drewN | apply below_drew1) | exact HB.out)⟩
              · rw [if_neg c24] at H
                have c24b0 : decide (t102 < a2) = false := decide_eq_false c24
                clear c24
                obtain rfl := Option.some.inj H
                go_wp2_with (first | ((with_reducible refine gate_callee (f := 12) rfl ?_); refine goesL_ (some 46) rfl rfl Try.func12 (by kernel_rfl) rfl #[.int .i64 a0, .int .i64 a1] rfl (by (try simp only [List.map_toArray, List.map_cons, List.map_nil]); first | done | rfl | (simp only [List.length_drop, List.length_take]; rfl)) ?_; (with_reducible refine (money_Mul.calls a0 a1 t105 t106 _ A14.out).mono ?_); rintro e w' ⟨rfl, ⟨nd, rfl⟩⟩; refine ⟨_, rfl, ?_⟩))
                go_ret
                exact ⟨by first | rfl | (simp [errW_none, errW_some] <;> rfl) | (simp [*, errW_none, errW_some] <;> rfl), by repeat (first | (with_reducible first | exact HB.out | apply below_alloc | apply pw_below_drewN | apply below_drew1) | exact HB.out)⟩
            · rw [if_neg c23] at H
              have c23b0 : decide (0 ≤ t102) = false := decide_eq_false c23
              clear c23
              obtain rfl := Option.some.inj H
              go_wp2_with (first | ((with_reducible refine gate_callee (f := 12) rfl ?_); refine goesL_ (some 46) rfl rfl Try.func12 (by kernel_rfl) rfl #[.int .i64 a0, .int .i64 a1] rfl (by (try simp only [List.map_toArray, List.map_cons, List.map_nil]); first | done | rfl | (simp only [List.length_drop, List.length_take]; rfl)) ?_; (with_reducible refine (money_Mul.calls a0 a1 t105 t106 _ A14.out).mono ?_); rintro e w' ⟨rfl, ⟨nd, rfl⟩⟩; refine ⟨_, rfl, ?_⟩))
              go_ret
              exact ⟨by first | rfl | (simp [errW_none, errW_some] <;> rfl) | (simp [*, errW_none, errW_some] <;> rfl), by repeat (first | (with_reducible first | exact HB.out | apply below_alloc | apply pw_below_drewN | apply below_drew1) | exact HB.out)⟩
          · rw [if_neg c22] at H
            have c22b0 : (t103 == 0) = false := beq_eq_false_iff_ne.mpr c22
            have c22b1 : (t103 != 0) = true := bne_iff_ne.mpr c22
            by_cases c29 : t103 = 30
            · rw [if_pos c29] at H
              have c29b0 : (t103 == 30) = true := beq_iff_eq.mpr c29
              have c29b1 : (t103 != 30) = false := bne_eq_false_iff_eq.mpr c29
              clear c29
              by_cases c30 : t101 = 0
              · rw [if_pos c30] at H
                have c30b0 : (t101 == 0) = true := beq_iff_eq.mpr c30
                have c30b1 : (t101 != 0) = false := bne_eq_false_iff_eq.mpr c30
                clear c30
                by_cases c31 : t102 = 0
                · rw [if_pos c31] at H
                  have c31b0 : (t102 == 0) = true := beq_iff_eq.mpr c31
                  have c31b1 : (t102 != 0) = false := bne_eq_false_iff_eq.mpr c31
                  clear c31
                  replace H := Option.bind_eq_some_iff.mp H
                  obtain ⟨t109, A320, H⟩ := H
                  replace H : (some t109) = some r := H
                  have A32 := Aside0.mk A320
                  clear A320
                  obtain rfl := Option.some.inj H
                  go_wp2_with (first | ((with_reducible refine gate_callee (f := 12) rfl ?_); refine goesL_ (some 46) rfl rfl Try.func12 (by kernel_rfl) rfl #[.int .i64 a0, .int .i64 a1] rfl (by (try simp only [List.map_toArray, List.map_cons, List.map_nil]); first | done | rfl | (simp only [List.length_drop, List.length_take]; rfl)) ?_; (with_reducible refine (money_Mul.calls a0 a1 t105 t106 _ A14.out).mono ?_); rintro e w' ⟨rfl, ⟨nd, rfl⟩⟩; refine ⟨_, rfl, ?_⟩) | (go_at_call 17; (with_reducible refine (quitrentlaw10_goes.calls  t109 _ A32.out).mono ?_); rintro e w33 ⟨rfl, hb⟩; have n0_ := Aside0.mk (below_step (by repeat (first | (with_reducible first | exact HB.out | apply below_alloc | apply pw_below_drewN | apply below_drew1) | exact HB.out)) hb); clear HB; have HB := n0_; clear n0_; (try clear hb); (try clear hb2); (try clear hk); (try clear hi)))
                  go_ret
                  exact ⟨by first | rfl | (simp [errW_none, errW_some] <;> rfl) | (simp [*, errW_none, errW_some] <;> rfl), by repeat (first | (with_reducible first | exact HB.out | apply below_alloc | apply pw_below_drewN | apply below_drew1) | exact HB.out)⟩
                · rw [if_neg c31] at H
                  have c31b0 : (t102 == 0) = false := beq_eq_false_iff_ne.mpr c31
                  have c31b1 : (t102 != 0) = true := bne_iff_ne.mpr c31
                  obtain rfl := Option.some.inj H
                  go_wp2_with (first | ((with_reducible refine gate_callee (f := 12) rfl ?_); refine goesL_ (some 46) rfl rfl Try.func12 (by kernel_rfl) rfl #[.int .i64 a0, .int .i64 a1] rfl (by (try simp only [List.map_toArray, List.map_cons, List.map_nil]); first | done | rfl | (simp only [List.length_drop, List.length_take]; rfl)) ?_; (with_reducible refine (money_Mul.calls a0 a1 t105 t106 _ A14.out).mono ?_); rintro e w' ⟨rfl, ⟨nd, rfl⟩⟩; refine ⟨_, rfl, ?_⟩))
                  go_ret
                  exact ⟨by first | rfl | (simp [errW_none, errW_some] <;> rfl) | (simp [*, errW_none, errW_some] <;> rfl), by repeat (first | (with_reducible first | exact HB.out | apply below_alloc | apply pw_below_drewN | apply below_drew1) | exact HB.out)⟩
              · rw [if_neg c30] at H
                have c30b0 : (t101 == 0) = false := beq_eq_false_iff_ne.mpr c30
                have c30b1 : (t101 != 0) = true := bne_iff_ne.mpr c30
                obtain rfl := Option.some.inj H
                go_wp2_with (first | ((with_reducible refine gate_callee (f := 12) rfl ?_); refine goesL_ (some 46) rfl rfl Try.func12 (by kernel_rfl) rfl #[.int .i64 a0, .int .i64 a1] rfl (by (try simp only [List.map_toArray, List.map_cons, List.map_nil]); first | done | rfl | (simp only [List.length_drop, List.length_take]; rfl)) ?_; (with_reducible refine (money_Mul.calls a0 a1 t105 t106 _ A14.out).mono ?_); rintro e w' ⟨rfl, ⟨nd, rfl⟩⟩; refine ⟨_, rfl, ?_⟩))
                go_ret
                exact ⟨by first | rfl | (simp [errW_none, errW_some] <;> rfl) | (simp [*, errW_none, errW_some] <;> rfl), by repeat (first | (with_reducible first | exact HB.out | apply below_alloc | apply pw_below_drewN | apply below_drew1) | exact HB.out)⟩
            · rw [if_neg c29] at H
              have c29b0 : (t103 == 30) = false := beq_eq_false_iff_ne.mpr c29
              have c29b1 : (t103 != 30) = true := bne_iff_ne.mpr c29
              obtain rfl := Option.some.inj H
              go_wp2_with (first | ((with_reducible refine gate_callee (f := 12) rfl ?_); refine goesL_ (some 46) rfl rfl Try.func12 (by kernel_rfl) rfl #[.int .i64 a0, .int .i64 a1] rfl (by (try simp only [List.map_toArray, List.map_cons, List.map_nil]); first | done | rfl | (simp only [List.length_drop, List.length_take]; rfl)) ?_; (with_reducible refine (money_Mul.calls a0 a1 t105 t106 _ A14.out).mono ?_); rintro e w' ⟨rfl, ⟨nd, rfl⟩⟩; refine ⟨_, rfl, ?_⟩))
              go_ret
              exact ⟨by first | rfl | (simp [errW_none, errW_some] <;> rfl) | (simp [*, errW_none, errW_some] <;> rfl), by repeat (first | (with_reducible first | exact HB.out | apply below_alloc | apply pw_below_drewN | apply below_drew1) | exact HB.out)⟩

/-- THE ONE PURE STATEMENT of quitrentlaw10_MoneyBack: yours. -/
def quitrentlaw10_MoneyBack.Pure : Prop := ∀ (a0 : Int) (a1 : Int) (a2 : Int), (Lit.int .i64 a0).wf = true → (Lit.int .i64 a1).wf = true → (Lit.int .i64 a2).wf = true → ∃ k, quitrentlaw10_MoneyBack.f k a0 a1 a2 = some true
theorem quitrentlaw10_MoneyBack.walk (P : quitrentlaw10_MoneyBack.Pure) (a0 : Int) (a1 : Int) (a2 : Int) (w : World) (w0 : (Lit.int .i64 a0).wf = true) (w1 : (Lit.int .i64 a1).wf = true) (w2 : (Lit.int .i64 a2).wf = true) :
    Calls Try.prog 5 #[.int .i64 a0, .int .i64 a1, .int .i64 a2] w fun e w' => e = .returned (.bool true) ∧ Below w.heap.size w w' := by
  obtain ⟨k, h⟩ := P a0 a1 a2 w0 w1 w2
  refine (quitrentlaw10_MoneyBack.calls k a0 a1 a2 true w h).mono ?_
  rintro e w' ⟨rfl, hd⟩
  exact ⟨rfl, hd⟩

end Go.Proofs.Ytdhiaagjbdbnhaa.PZBack
