/- Contracts of quitrentref10's Small, Less, Sum and Part, proved by walking their code. -/
import Derived.Test.YtimdoddaaelfjaaMul
import Derived.Deep.RegionWith
import Derived.WalkLawsBesides
import Derived.OwnWalk
import Derived.ChangeKeysEq
import Derived.KernelRfl
namespace Go.Proofs.Ytimdoddaaelfjaa.Ext
open Go.RowKit Go.Proofs.YtimdoddaaelfjaaW.PrintWords Go.Proofs.YtimdoddaaelfjaaW.PrintLast Go.Proofs.YtimdoddaaelfjaaW.PrintMore Go.Proofs.YtimdoddaaelfjaaW.Hand
set_option linter.unusedVariables false
theorem eq4 (d0 d1 d2 d3 a0 a1 a2 a3 : Int) (w : World) :
    (Op.equalIn 10000 43 (big d0 d1 d2 d3) (big a0 a1 a2 a3)).run Try.prog w = .ok (d0 == a0 && (d1 == a1 && (d2 == a2 && d3 == a3))) w := by
  obtain ⟨i, hi, _⟩ := Option.map_eq_some_iff.1 (show (Try.prog.info? 41).map (·.size) = some 1 by kernel_rfl)
  unfold big
  rw [run_equalIn_array w 9999 (n := 4) (e := 41) _ _ Try.underlying43 hi]
  have hc : Try.prog.cellsOf 41 = 1 := by kernel_rfl
  rw [hc]
  show (Op.eqItems 9999 41 1 _ _ [0, 1, 2, 3]).run Try.prog w = _
  have hu := Try.underlying41
  simp [Op.eqItems, part, go_sem, run_equalIn_int _ 9998 _ _ _ _ _ hu]
  by_cases e0 : d0 = a0 <;> by_cases e1 : d1 = a1 <;> by_cases e2 : d2 = a2 <;> by_cases e3 : d3 = a3 <;> simp [e0, e1, e2, e3]
set_option maxRecDepth 100000 in
set_option maxHeartbeats 3200000 in
theorem Small_raw (a0 a1 a2 a3 y z x d0 d1 d2 d3 : Int) (r : Bool) (h1 : IntKind.u64.wrap (a1 * 4294967296) = y) (h2 : IntKind.u64.wrap (a0 + y) = z) (h3 : wrap64 z = x) (hx : I64 x) (hd : bigV x = big d0 d1 d2 d3)
    (hr : (d0 == a0 && (d1 == a1 && (d2 == a2 && d3 == a3))) = r) (w : World) :
    Calls Try.prog 30 #[big a0 a1 a2 a3] w fun e w' => e = .returned (.tuple #[.int .i64 (if r then x else 0), .bool r]) ∧ Below w.heap.size w w' := by
  have k := Aside0.mk (fun w => refOf x hx w)
  rw [hd] at k
  have ke := eq4 d0 d1 d2 d3 a0 a1 a2 a3
  rw [hr] at ke
  clear hx hd hr
  unfold big at k ke ⊢
  cases r
  · go_enter Try.func30, Try.ntmps30
    go_wp2_with fail
    rw [h3]
    go_region_with (go_at_call 23; refine (k.out _).mono ?_; rintro e w1 ⟨rfl, hb⟩; have q := (Blk.below (g := w.heap.size) (Blk.drew (Blk.new rfl)) hb); have q0 := q.cell 0; have q1 := q.cell 1; have q2 := q.cell 2; have q3 := q.cell 3; simp at q0 q1 q2 q3; have ke1 := ke w1; have hb := Aside0.mk (below_step (below_drew (below_alloc (Below.refl w.heap.size w) _)) hb))
    all_goals
      go_wp2_with fail
      go_ret2
      exact ⟨rfl, hb.out⟩
  · go_enter Try.func30, Try.ntmps30
    go_wp2_with fail
    rw [h3]
    go_region_with (go_at_call 23; refine (k.out _).mono ?_; rintro e w1 ⟨rfl, hb⟩; have q := (Blk.below (g := w.heap.size) (Blk.drew (Blk.new rfl)) hb); have q0 := q.cell 0; have q1 := q.cell 1; have q2 := q.cell 2; have q3 := q.cell 3; simp at q0 q1 q2 q3; have ke1 := ke w1; have hb := Aside0.mk (below_step (below_drew (below_alloc (Below.refl w.heap.size w) _)) hb))
    all_goals
      go_wp2_with fail
      go_ret2
      exact ⟨rfl, hb.out⟩
theorem refSmall (s : Int) (w : World) :
    Calls Try.prog 30 #[bigV s] w fun e w' => e = .returned (.tuple #[.int .i64 (if (s - wrap64 s) % 340282366920938463463374607431768211456 = 0 then wrap64 s else 0), .bool (decide ((s - wrap64 s) % 340282366920938463463374607431768211456 = 0))]) ∧ Below w.heap.size w w' := by
  have e1 : IntKind.u64.wrap (s / 4294967296 % 4294967296 * 4294967296) = s / 4294967296 % 4294967296 * 4294967296 := wrapUI _ (by omega) (by omega)
  have e2 : IntKind.u64.wrap (s % 4294967296 + s / 4294967296 % 4294967296 * 4294967296) = s % 18446744073709551616 := by
    rw [wrapUI _ (by omega) (by omega)]; omega
  have e3 : wrap64 (s % 18446744073709551616) = wrap64 s := by unfold wrap64; omega
  have hx : I64 (wrap64 s) := by unfold I64 wrap64; omega
  have k := fun r hr => Small_raw _ _ (s / 4294967296 / 4294967296 % 4294967296) (s / 4294967296 / 4294967296 / 4294967296 % 4294967296) _ _ _ _ _ _ _ r e1 e2 e3 hx rfl hr w
  by_cases hc : (s - wrap64 s) % 340282366920938463463374607431768211456 = 0
  · rw [if_pos hc, decide_eq_true hc]
    refine k true ?_
    have b := bigV_eq _ _ hc
    unfold bigV big at b
    simp only [Value.agg.injEq, Array.mk.injEq, List.cons.injEq, Value.int.injEq, true_and, and_true] at b
    obtain ⟨b0, b1, b2, b3⟩ := b
    rw [b0, b1, b2, b3]
    simp
  · rw [if_neg hc, decide_eq_false hc]
    refine k false ?_
    rw [← Bool.not_eq_true]
    intro h
    simp only [Bool.and_eq_true, beq_iff_eq] at h
    obtain ⟨h0, h1, h2, h3⟩ := h
    generalize wrap64 s = x at *
    apply hc
    omega
set_option maxRecDepth 100000 in
theorem Less_raw3 (a0 a1 a2 a3 b0 b1 b2 b3 : Int)  (h : (a3 == b3) = false) (w : World) :
    Calls Try.prog 31 #[big a0 a1 a2 a3, big b0 b1 b2 b3] w fun e w' => e = .returned (.bool (decide (a3 < b3))) ∧ Below w.heap.size w w' := by
  unfold big
  go_enter Try.func31, Try.ntmps31
  go_wp2_with fail
  refine wp_loop_rounds 5 ?_
  rw [rounds_succ]
  go_wp2_with fail
  go_quiet (fail)
  go_wp2_with fail
  go_quiet (fail)
  go_wp2_with fail
  go_ret
  refine ⟨rfl, ?_⟩
  repeat (with_reducible first | exact Below.refl _ _ | apply below_alloc | apply pw_below_drewN)
set_option maxRecDepth 100000 in
theorem Less_raw2 (a0 a1 a2 a3 b0 b1 b2 b3 : Int) (h3 : (a3 == b3) = true) (h : (a2 == b2) = false) (w : World) :
    Calls Try.prog 31 #[big a0 a1 a2 a3, big b0 b1 b2 b3] w fun e w' => e = .returned (.bool (decide (a2 < b2))) ∧ Below w.heap.size w w' := by
  unfold big
  go_enter Try.func31, Try.ntmps31
  go_wp2_with fail
  refine wp_loop_rounds 5 ?_
  rw [rounds_succ]
  go_wp2_with fail
  go_quiet (fail)
  go_wp2_with fail
  rw [rounds_succ]
  go_wp2_with fail
  go_quiet (fail)
  go_wp2_with fail
  go_quiet (fail)
  go_wp2_with fail
  go_ret
  refine ⟨rfl, ?_⟩
  repeat (with_reducible first | exact Below.refl _ _ | apply below_alloc | apply pw_below_drewN)
set_option maxRecDepth 100000 in
theorem Less_raw1 (a0 a1 a2 a3 b0 b1 b2 b3 : Int) (h3 : (a3 == b3) = true) (h2 : (a2 == b2) = true) (h : (a1 == b1) = false) (w : World) :
    Calls Try.prog 31 #[big a0 a1 a2 a3, big b0 b1 b2 b3] w fun e w' => e = .returned (.bool (decide (a1 < b1))) ∧ Below w.heap.size w w' := by
  unfold big
  go_enter Try.func31, Try.ntmps31
  go_wp2_with fail
  refine wp_loop_rounds 5 ?_
  rw [rounds_succ]
  go_wp2_with fail
  go_quiet (fail)
  go_wp2_with fail
  rw [rounds_succ]
  go_wp2_with fail
  go_quiet (fail)
  go_wp2_with fail
  rw [rounds_succ]
  go_wp2_with fail
  go_quiet (fail)
  go_wp2_with fail
  go_quiet (fail)
  go_wp2_with fail
  go_ret
  refine ⟨rfl, ?_⟩
  repeat (with_reducible first | exact Below.refl _ _ | apply below_alloc | apply pw_below_drewN)
set_option maxRecDepth 100000 in
theorem Less_raw0 (a0 a1 a2 a3 b0 b1 b2 b3 : Int) (h3 : (a3 == b3) = true) (h2 : (a2 == b2) = true) (h1 : (a1 == b1) = true) (h : (a0 == b0) = false) (w : World) :
    Calls Try.prog 31 #[big a0 a1 a2 a3, big b0 b1 b2 b3] w fun e w' => e = .returned (.bool (decide (a0 < b0))) ∧ Below w.heap.size w w' := by
  unfold big
  go_enter Try.func31, Try.ntmps31
  go_wp2_with fail
  refine wp_loop_rounds 5 ?_
  rw [rounds_succ]
  go_wp2_with fail
  go_quiet (fail)
  go_wp2_with fail
  rw [rounds_succ]
  go_wp2_with fail
  go_quiet (fail)
  go_wp2_with fail
  rw [rounds_succ]
  go_wp2_with fail
  go_quiet (fail)
  go_wp2_with fail
  rw [rounds_succ]
  go_wp2_with fail
  go_quiet (fail)
  go_wp2_with fail
  go_quiet (fail)
  go_wp2_with fail
  go_ret
  refine ⟨rfl, ?_⟩
  repeat (with_reducible first | exact Below.refl _ _ | apply below_alloc | apply pw_below_drewN)
set_option maxRecDepth 100000 in
theorem Less_rawE (a0 a1 a2 a3 b0 b1 b2 b3 : Int) (h0 : (a0 == b0) = true) (h1 : (a1 == b1) = true) (h2 : (a2 == b2) = true) (h3 : (a3 == b3) = true) (w : World) :
    Calls Try.prog 31 #[big a0 a1 a2 a3, big b0 b1 b2 b3] w fun e w' => e = .returned (.bool false) ∧ Below w.heap.size w w' := by
  unfold big
  go_enter Try.func31, Try.ntmps31
  go_wp2_with fail
  refine wp_loop_rounds 5 ?_
  rw [rounds_succ]
  go_wp2_with fail
  go_quiet (fail)
  go_wp2_with fail
  rw [rounds_succ]
  go_wp2_with fail
  go_quiet (fail)
  go_wp2_with fail
  rw [rounds_succ]
  go_wp2_with fail
  go_quiet (fail)
  go_wp2_with fail
  rw [rounds_succ]
  go_wp2_with fail
  go_quiet (fail)
  go_wp2_with fail
  rw [rounds_succ]
  go_wp2_with fail
  go_ret
  refine ⟨rfl, ?_⟩
  repeat (with_reducible first | exact Below.refl _ _ | apply below_alloc | apply pw_below_drewN)
theorem beqF {a b : Int} (h : a ≠ b) : (a == b) = false := by simp [h]
theorem beqT {a b : Int} (h : a = b) : (a == b) = true := by simp [h]
/-- Of two numbers, neither negative, of at most 128 bits. -/
theorem refLess (s t : Int) (hs : 0 ≤ s) (hs2 : s < 340282366920938463463374607431768211456) (ht : 0 ≤ t) (ht2 : t < 340282366920938463463374607431768211456) (w : World) :
    Calls Try.prog 31 #[bigV s, bigV t] w fun e w' => e = .returned (.bool (decide (s < t))) ∧ Below w.heap.size w w' := by
  unfold bigV
  by_cases h3 : s / 4294967296 / 4294967296 / 4294967296 % 4294967296 = t / 4294967296 / 4294967296 / 4294967296 % 4294967296
  · by_cases h2 : s / 4294967296 / 4294967296 % 4294967296 = t / 4294967296 / 4294967296 % 4294967296
    · by_cases h1 : s / 4294967296 % 4294967296 = t / 4294967296 % 4294967296
      · by_cases h0 : s % 4294967296 = t % 4294967296
        · rw [show decide (s < t) = false from decide_eq_false (by omega)]
          exact Less_rawE _ _ _ _ _ _ _ _ (beqT h0) (beqT h1) (beqT h2) (beqT h3) w
        · rw [show decide (s < t) = decide (s % 4294967296 < t % 4294967296) from decide_eq_decide.2 (by omega)]
          exact Less_raw0 _ _ _ _ _ _ _ _ (beqT h3) (beqT h2) (beqT h1) (beqF h0) w
      · rw [show decide (s < t) = decide (s / 4294967296 % 4294967296 < t / 4294967296 % 4294967296) from decide_eq_decide.2 (by omega)]
        exact Less_raw1 _ _ _ _ _ _ _ _ (beqT h3) (beqT h2) (beqF h1) w
    · rw [show decide (s < t) = decide (s / 4294967296 / 4294967296 % 4294967296 < t / 4294967296 / 4294967296 % 4294967296) from decide_eq_decide.2 (by omega)]
      exact Less_raw2 _ _ _ _ _ _ _ _ (beqT h3) (beqF h2) w
  · rw [show decide (s < t) = decide (s / 4294967296 / 4294967296 / 4294967296 % 4294967296 < t / 4294967296 / 4294967296 / 4294967296 % 4294967296) from decide_eq_decide.2 (by omega)]
    exact Less_raw3 _ _ _ _ _ _ _ _ (beqF h3) w
end Go.Proofs.Ytimdoddaaelfjaa.Ext
