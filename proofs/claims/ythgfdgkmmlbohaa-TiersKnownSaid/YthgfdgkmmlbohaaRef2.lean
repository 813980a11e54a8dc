/- Contracts of quitrentref10's Small, Less, Sum and Part, proved by walking their code. -/
import Derived.Test.YthgfdgkmmlbohaaMul
import Derived.Deep.RegionWith
import Derived.WalkLawsBesides
import Derived.OwnWalk
import Derived.ChangeKeysEq
import Derived.KernelRfl
namespace Go.Proofs.Ythgfdgkmmlbohaa.Ext
open Go.RowKit Go.Proofs.YthgfdgkmmlbohaaW.PrintWords Go.Proofs.YthgfdgkmmlbohaaW.PrintLast Go.Proofs.YthgfdgkmmlbohaaW.PrintMore Go.Proofs.YthgfdgkmmlbohaaW.Hand
set_option linter.unusedVariables false
theorem eq4 (d0 d1 d2 d3 a0 a1 a2 a3 : Int) (w : World) :
    (Op.equalIn 10000 44 (big d0 d1 d2 d3) (big a0 a1 a2 a3)).run Try.prog w = .ok (d0 == a0 && (d1 == a1 && (d2 == a2 && d3 == a3))) w := by
  obtain ⟨i, hi, _⟩ := Option.map_eq_some_iff.1 (show (Try.prog.info? 42).map (·.size) = some 1 by kernel_rfl)
  unfold big
  rw [run_equalIn_array w 9999 (n := 4) (e := 42) _ _ Try.underlying44 hi]
  have hc : Try.prog.cellsOf 42 = 1 := by kernel_rfl
  rw [hc]
  show (Op.eqItems 9999 42 1 _ _ [0, 1, 2, 3]).run Try.prog w = _
  have hu := Try.underlying42
  simp [Op.eqItems, part, go_sem, run_equalIn_int _ 9998 _ _ _ _ _ hu]
  by_cases e0 : d0 = a0 <;> by_cases e1 : d1 = a1 <;> by_cases e2 : d2 = a2 <;> by_cases e3 : d3 = a3 <;> simp [e0, e1, e2, e3]
set_option maxRecDepth 100000 in
set_option maxHeartbeats 3200000 in
theorem Small_raw (a0 a1 a2 a3 y z x d0 d1 d2 d3 : Int) (r : Bool) (h1 : IntKind.u64.wrap (a1 * 4294967296) = y) (h2 : IntKind.u64.wrap (a0 + y) = z) (h3 : wrap64 z = x) (hx : I64 x) (hd : bigV x = big d0 d1 d2 d3)
    (hr : (d0 == a0 && (d1 == a1 && (d2 == a2 && d3 == a3))) = r) (w : World) :
    Calls Try.prog 23 #[big a0 a1 a2 a3] w fun e w' => e = .returned (.tuple #[.int .i64 (if r then x else 0), .bool r]) ∧ Below w.heap.size w w' := by
  have k := Aside0.mk (fun w => refOf x hx w)
  rw [hd] at k
  have ke := eq4 d0 d1 d2 d3 a0 a1 a2 a3
  rw [hr] at ke
  clear hx hd hr
  unfold big at k ke ⊢
  cases r
  · go_enter Try.func23, Try.ntmps23
    go_wp2_with fail
    rw [h3]
    go_region_with (go_at_call 22; refine (k.out _).mono ?_; rintro e w1 ⟨rfl, hb⟩; have q := (Blk.below (g := w.heap.size) (Blk.drew (Blk.new rfl)) hb); have q0 := q.cell 0; have q1 := q.cell 1; have q2 := q.cell 2; have q3 := q.cell 3; simp at q0 q1 q2 q3; have ke1 := ke w1; have hb := Aside0.mk (below_step (below_drew (below_alloc (Below.refl w.heap.size w) _)) hb))
    all_goals
      go_wp2_with fail
      go_ret2
      exact ⟨rfl, hb.out⟩
  · go_enter Try.func23, Try.ntmps23
    go_wp2_with fail
    rw [h3]
    go_region_with (go_at_call 22; refine (k.out _).mono ?_; rintro e w1 ⟨rfl, hb⟩; have q := (Blk.below (g := w.heap.size) (Blk.drew (Blk.new rfl)) hb); have q0 := q.cell 0; have q1 := q.cell 1; have q2 := q.cell 2; have q3 := q.cell 3; simp at q0 q1 q2 q3; have ke1 := ke w1; have hb := Aside0.mk (below_step (below_drew (below_alloc (Below.refl w.heap.size w) _)) hb))
    all_goals
      go_wp2_with fail
      go_ret2
      exact ⟨rfl, hb.out⟩
theorem refSmall (s : Int) (w : World) :
    Calls Try.prog 23 #[bigV s] w fun e w' => e = .returned (.tuple #[.int .i64 (if (s - wrap64 s) % 340282366920938463463374607431768211456 = 0 then wrap64 s else 0), .bool (decide ((s - wrap64 s) % 340282366920938463463374607431768211456 = 0))]) ∧ Below w.heap.size w w' := by
  have e1 : IntKind.u64.wrap (s / 4294967296 % 4294967296 * 4294967296) = s / 4294967296 % 4294967296 * 4294967296 := wrapUI _ (by omega) (by omega)
  have e2 : IntKind.u64.wrap (s % 4294967296 + s / 4294967296 % 4294967296 * 4294967296) = s % 18446744073709551616 := by
    rw [wrapUI _ (by omega) (by omega)]; omega
  have e3 : wrap64 (s % 18446744073709551616) = wrap64 s := by unfold wrap64; omega
  have hx : I64 (wrap64 s) := by unfold I64 wrap64; omega
  have k := fun r hr => Small_raw _ _ (s / 4294967296 / 4294967296 % 4294967296) (s / 4294967296 / 4294967296 / 4294967296 % 4294967296) _ _ _ _ _ _ _ r e1 e2 e3 hx rfl hr w
  by_cases hc : (s - wrap64 s) % 340282366920938463463374607431768211456 = 0
  · rw [if_pos hc, decide_eq_true hc]
    refine k true ?_
    have b := bigV_eq _ _ hc
    unfold bigV big at b
    simp only [Value.agg.injEq, Array.mk.injEq, List.cons.injEq, Value.int.injEq, true_and, and_true] at b
    obtain ⟨b0, b1, b2, b3⟩ := b
    rw [b0, b1, b2, b3]
    simp
  · rw [if_neg hc, decide_eq_false hc]
    refine k false ?_
    rw [← Bool.not_eq_true]
    intro h
    simp only [Bool.and_eq_true, beq_iff_eq] at h
    obtain ⟨h0, h1, h2, h3⟩ := h
    generalize wrap64 s = x at *
    apply hc
    omega
theorem beqF {a b : Int} (h : a ≠ b) : (a == b) = false := by simp [h]
theorem beqT {a b : Int} (h : a = b) : (a == b) = true := by simp [h]
end Go.Proofs.Ythgfdgkmmlbohaa.Ext
