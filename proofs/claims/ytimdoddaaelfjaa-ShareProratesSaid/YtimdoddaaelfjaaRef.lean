/- Contracts of quitrentref10, proved by walking its code. -/
import Derived.Test.YtimdoddaaelfjaaRefMath
import Derived.LoopN
namespace Go.Proofs.Ytimdoddaaelfjaa.Ext
open Go.RowKit Go.Proofs.YtimdoddaaelfjaaW.PrintWords Go.Proofs.YtimdoddaaelfjaaW.PrintLast Go.Proofs.YtimdoddaaelfjaaW.PrintMore Go.Proofs.YtimdoddaaelfjaaW.Hand
set_option linter.unusedVariables false
theorem Blk.put_ne {W : World} {g g' j : Nat} {o : Obj} {u : Value} (h : Blk W g o) (hne : g ≠ g') : Blk (W.setCell ⟨g', j, none⟩ u) g o :=
  ⟨(Below.heap_setCell W ⟨g', j, none⟩ u g (fun e => hne e)).trans h.out⟩
theorem Blk.put4 {W : World} {g t : Nat} {x0 x1 x2 x3 : Value} (h : Blk W g (.cells #[x0, x1, x2, x3] t (0, 0))) (u0 u1 u2 u3 : Value) :
    Blk ((((W.setCell ⟨g, 0, none⟩ u0).setCell ⟨g, 1, none⟩ u1).setCell ⟨g, 2, none⟩ u2).setCell ⟨g, 3, none⟩ u3) g (.cells #[u0, u1, u2, u3] t (0, 0)) :=
  (((h.put 0 u0 rfl).put 1 u1 rfl).put 2 u2 rfl).put 3 u3 rfl
set_option maxRecDepth 100000 in
set_option maxHeartbeats 3200000 in
theorem Add_raw (a0 a1 a2 a3 b0 b1 b2 b3 t0 t1 t2 t3 s1 s2 s3 o0 o1 o2 o3 c1 c2 c3 c4 : Int)
    (e0 : IntKind.u64.wrap (a0 + b0) = t0) (e1 : IntKind.u64.wrap (a1 + b1) = t1) (e2 : IntKind.u64.wrap (a2 + b2) = t2) (e3 : IntKind.u64.wrap (a3 + b3) = t3)
    (f0 : IntKind.u64.wrap t0 = t0) (f1 : IntKind.u64.wrap (t1 + c1) = s1) (f2 : IntKind.u64.wrap (t2 + c2) = s2) (f3 : IntKind.u64.wrap (t3 + c3) = s3)
    (g0 : t0.tmod 4294967296 = o0) (g1 : s1.tmod 4294967296 = o1) (g2 : s2.tmod 4294967296 = o2) (g3 : s3.tmod 4294967296 = o3)
    (h0 : t0 / 4294967296 = c1) (h1 : s1 / 4294967296 = c2) (h2 : s2 / 4294967296 = c3) (h3 : s3 / 4294967296 = c4) (w : World) :
    Calls Try.prog 21 #[big a0 a1 a2 a3, big b0 b1 b2 b3] w fun e w' => e = .returned (big o0 o1 o2 o3) ∧ Below w.heap.size w w' := by
  unfold big
  go_enter Try.func21, Try.ntmps21
  go_wp2_with fail
  refine wp_loop_rounds 5 ?_
  rw [rounds_succ]
  go_wp2_with fail
  go_quiet (fail)
  go_wp2_with fail
  rw [rounds_succ]
  go_wp2_with fail
  go_quiet (fail)
  go_wp2_with fail
  rw [rounds_succ]
  go_wp2_with fail
  go_quiet (fail)
  go_wp2_with fail
  rw [rounds_succ]
  go_wp2_with fail
  go_quiet (fail)
  go_wp2_with fail
  rw [rounds_succ]
  go_wp2_with fail
  refine bodyPost_ret (v := big o0 o1 o2 o3) (by simp [results, Try.results21, go_sem, big]) rfl ⟨rfl, ?_⟩
  repeat (with_reducible first | exact Below.refl _ _ | apply below_alloc | apply pw_below_drewN | refine below_set ?_ (by omega))
theorem refAdd (s t : Int) (w : World) :
    Calls Try.prog 21 #[bigV s, bigV t] w fun e w' => e = .returned (bigV (s + t)) ∧ Below w.heap.size w w' := by
  obtain ⟨c1, l1, u1, e1, d1, a1, b1, g1⟩ := add_step s t 0 (by omega) (by omega)
  obtain ⟨c2, l2, u2, e2, d2, a2, b2, g2⟩ := add_step (s / 4294967296) (t / 4294967296) c1 l1 u1
  obtain ⟨c3, l3, u3, e3, d3, a3, b3, g3⟩ := add_step (s / 4294967296 / 4294967296) (t / 4294967296 / 4294967296) c2 l2 u2
  obtain ⟨c4, l4, u4, e4, d4, a4, b4, g4⟩ := add_step (s / 4294967296 / 4294967296 / 4294967296) (t / 4294967296 / 4294967296 / 4294967296) c3 l3 u3
  simp only [Int.add_zero] at e1 d1 b1 g1
  rw [e1] at e2 g2
  rw [e2] at e3 g3
  rw [e3] at g4
  exact Add_raw _ _ _ _ _ _ _ _ _ _ _ _ _ _ _ _ _ _ _ c1 c2 c3 c4 a1 a2 a3 a4 b1 b2 b3 b4 g1 g2 g3 g4 d1 d2 d3 d4 w
set_option maxRecDepth 100000 in
set_option maxHeartbeats 3200000 in
theorem Neg_raw (a0 a1 a2 a3 o0 o1 o2 o3 : Int) (s : Int)
    (e0 : IntKind.u64.wrap (4294967295 - a0) = o0) (e1 : IntKind.u64.wrap (4294967295 - a1) = o1) (e2 : IntKind.u64.wrap (4294967295 - a2) = o2) (e3 : IntKind.u64.wrap (4294967295 - a3) = o3)
    (hs : big o0 o1 o2 o3 = bigV (-1 - s)) (p0 p1 p2 p3 : Int) (hp : bigV (-s) = big p0 p1 p2 p3) (w : World) :
    Calls Try.prog 32 #[big a0 a1 a2 a3] w fun e w' => e = .returned (bigV (-s)) ∧ Below w.heap.size w w' := by
  have k := Aside0.mk (fun w => refAdd (-1 - s) 1 w)
  have hk : ((-1 - s) + 1 : Int) = -s := by omega
  rw [hk, ← hs, hp] at k
  rw [hp]
  clear hs hk hp
  unfold big at k
  unfold big
  go_enter Try.func32, Try.ntmps32
  go_wp2_with fail
  refine wp_loop_rounds 5 ?_
  rw [rounds_succ]
  go_wp2_with fail
  rw [rounds_succ]
  go_wp2_with fail
  rw [rounds_succ]
  go_wp2_with fail
  rw [rounds_succ]
  go_wp2_with fail
  rw [rounds_succ]
  go_wp2_with fail
  refine (k.out _).mono ?_
  rintro e w1 ⟨rfl, hb⟩
  have hq := (Blk.below (g := w.heap.size + 1) (o := .cells #[.int .u64 0, .int .u64 0, .int .u64 0, .int .u64 0] 43) (Blk.new (by rw [size_alloc])).alloc hb)
  have q0 := hq.cell 0
  have q1 := hq.cell 1
  have q2 := hq.cell 2
  have q3 := hq.cell 3
  have z0 := hq.free 0
  have z1 := hq.free 1
  have z2 := hq.free 2
  have z3 := hq.free 3
  simp at q0 q1 q2 q3
  have hb := Aside0.mk (below_step (below_alloc (below_alloc (below_alloc (Below.refl w.heap.size w) _) _) _) hb)
  go_wp2_with fail
  have hz := Blk.put4 hq (.int .u64 p0) (.int .u64 p1) (.int .u64 p2) (.int .u64 p3)
  have y0 := hz.cell 0
  have y1 := hz.cell 1
  have y2 := hz.cell 2
  have y3 := hz.cell 3
  simp at y0 y1 y2 y3
  refine bodyPost_ret (v := big p0 p1 p2 p3) (by simp [results, Try.results32, go_sem, big, y0, y1, y2, y3]) rfl ⟨rfl, ?_⟩
  repeat (with_reducible first | exact hb.out | refine below_set ?_ (by omega))
theorem refNeg (s : Int) (w : World) :
    Calls Try.prog 32 #[bigV s] w fun e w' => e = .returned (bigV (-s)) ∧ Below w.heap.size w w' := by
  have n0 := neg_dig s
  have n1 := neg_dig (s / 4294967296)
  have n2 := neg_dig (s / 4294967296 / 4294967296)
  have n3 := neg_dig (s / 4294967296 / 4294967296 / 4294967296)
  refine Neg_raw _ _ _ _ _ _ _ _ s (wrapUI _ (by omega) (by omega)) (wrapUI _ (by omega) (by omega)) (wrapUI _ (by omega) (by omega)) (wrapUI _ (by omega) (by omega)) ?_ _ _ _ _ rfl w
  unfold bigV
  rw [n0.1, n0.2, n1.1, n1.2, n2.1, n2.2, n3.1]
set_option maxRecDepth 100000 in
set_option maxHeartbeats 3200000 in
theorem Of_raw (a : Int) (o0 o1 o2 : Int) (h0 : (IntKind.u64.wrap a).tmod 4294967296 = o0) (h1 : IntKind.u64.wrap a / 4294967296 = o1) (h2 : o2 = if a < 0 then 4294967295 else 0) (w : World) :
    Calls Try.prog 23 #[.int .i64 a] w fun e w' => e = .returned (big o0 o1 o2 o2) ∧ Below w.heap.size w w' := by
  by_cases ha : a < 0
  · rw [if_pos ha] at h2
    subst h2
    go_enter Try.func23, Try.ntmps23
    go_wp2_with fail
    refine bodyPost_ret (v := big o0 o1 4294967295 4294967295) (by simp [results, Try.results23, go_sem, big]) rfl ⟨rfl, ?_⟩
    repeat (with_reducible first | exact Below.refl _ _ | apply below_alloc | apply pw_below_drewN | refine below_set ?_ (by omega))
  · rw [if_neg ha] at h2
    subst h2
    go_enter Try.func23, Try.ntmps23
    go_wp2_with fail
    refine bodyPost_ret (v := big o0 o1 0 0) (by simp [results, Try.results23, go_sem, big]) rfl ⟨rfl, ?_⟩
    repeat (with_reducible first | exact Below.refl _ _ | apply below_alloc | apply pw_below_drewN | refine below_set ?_ (by omega))
theorem refOf (a : Int) (ha : I64 a) (w : World) :
    Calls Try.prog 23 #[.int .i64 a] w fun e w' => e = .returned (bigV a) ∧ Below w.heap.size w w' := by
  unfold I64 at ha
  have hu : IntKind.u64.wrap a = a % 18446744073709551616 := IntKind.wrap_u64 a
  have e0 : (IntKind.u64.wrap a).tmod 4294967296 = a % 4294967296 := by rw [tmodK _ (by omega), hu]; omega
  have e1 : IntKind.u64.wrap a / 4294967296 = a / 4294967296 % 4294967296 := by rw [hu]; omega
  have k := Of_raw a _ _ _ e0 e1 rfl w
  have e2 : (if a < 0 then 4294967295 else 0) = a / 4294967296 / 4294967296 % 4294967296 := by split <;> omega
  have e3 : (if a < 0 then 4294967295 else 0) = a / 4294967296 / 4294967296 / 4294967296 % 4294967296 := by split <;> omega
  unfold bigV
  rw [← e3, ← e2]
  exact k
end Go.Proofs.Ytimdoddaaelfjaa.Ext
