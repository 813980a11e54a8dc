/- The contract of quitrentref12.Prorate: the walk. -/
import Derived.Test.YtimdoddaaelfjaaSPro
namespace Go.Proofs.Ytimdoddaaelfjaa.Ext
open Go.RowKit Go.Proofs.YtimdoddaaelfjaaW.PrintWords Go.Proofs.YtimdoddaaelfjaaW.PrintLast Go.Proofs.YtimdoddaaelfjaaW.PrintMore Go.Proofs.YtimdoddaaelfjaaW.Hand
set_option linter.unusedVariables false
/-- The place i is as it is asked. -/
def Good (am ds : List Int) (of : Int) (i : Nat) : Prop := 0 ≤ am.getD i 0 ∧ am.getD i 0 ≤ 1125899906842624 ∧ 0 ≤ ds.getD i 0 ∧ ds.getD i 0 ≤ of
theorem all_getD {l : List Int} {P : Int → Prop} (h : ∀ i, i < l.length → P (l.getD i 0)) : ∀ x ∈ l, P x := fun x hx => by
  obtain ⟨i, hi, rfl⟩ := List.getElem_of_mem hx
  have := h i hi
  rw [List.getD_eq_getElem?_getD, List.getElem?_eq_getElem hi] at this
  exact this
theorem good_all {am ds : List Int} {of : Int} (h1 : am.length = ds.length) (h2 : 1 ≤ am.length) (h3 : am.length ≤ 100) (h4 : 1 ≤ of) (h5 : of ≤ 10000) (h : ∀ i, i < am.length → Good am ds of i) : POk am ds of :=
  ⟨h1, h2, h3, all_getD fun i hi => ⟨(h i hi).1, (h i hi).2.1⟩, h4, h5, all_getD fun i hi => ⟨(h i (by omega)).2.2.1, (h i (by omega)).2.2.2⟩⟩
theorem POk.good {am ds : List Int} {of : Int} (h : POk am ds of) (i : Nat) (hi : i < am.length) : Good am ds of i := by
  have a := h.a _ (getD_mem am i hi)
  have d := h.d _ (getD_mem ds i (by have := h.len; omega))
  exact ⟨a.1, a.2, d.1, d.2⟩
theorem N2.put4 {W0 W : World} {L g : Nat} {vo : Value} {xo : List Int} {x0 x1 x2 x3 : Value} (h : N2 W0 L W vo (.slice none 0 0) xo []) (hg : Blk W g (.cells #[x0, x1, x2, x3] 43 (0, 0))) (hl : L ≤ g) (u0 u1 u2 u3 : Value) :
    N2 W0 L ((((W.setCell ⟨g, 0, none⟩ u0).setCell ⟨g, 1, none⟩ u1).setCell ⟨g, 2, none⟩ u2).setCell ⟨g, 3, none⟩ u3) vo (.slice none 0 0) xo [] := by
  have hne := own_ne h.o hg.out (by decide)
  have hgr : W.grownBy ((((W.setCell ⟨g, 0, none⟩ u0).setCell ⟨g, 1, none⟩ u1).setCell ⟨g, 2, none⟩ u2).setCell ⟨g, 3, none⟩ u3) (some g) :=
    grown_trans (grown_trans (grown_trans (grown_put _ _ _ _) (grown_put _ _ _ _)) (grown_put _ _ _ _)) (grown_put _ _ _ _)
  exact ⟨own_other h.o hgr (by
    cases e : vo.ownBlock with
    | none => exact .inl rfl
    | some k => exact .inr (fun e2 => hne (by rw [e, e2]))), own_nil _ _ _ _, fun k hk e => by simp [Value.ownBlock] at e, Nat.le_trans h.lb hgr.size, h.low.grown hgr h.lb (fun k hk => by injection hk with hk; omega)⟩
theorem N2.drew {W0 W : World} {L : Nat} {vo vr : Value} {xo xr : List Int} (h : N2 W0 L W vo vr xo xr) : N2 W0 L W.drew vo vr xo xr := h.below (below_drew (Below.refl _ _))
theorem N2.app_ob {W0 W : World} {L g : Nat} {vo vr : Value} {xo xr : List Int} {cs : Array Value} {ops : Array Oper} {rest : List Oper} {o : Oper} {a : Act} {Q : Exit → Act → World → Prop} (h : N2 W0 L W vo vr xo xr) (hb : Blk W g (.cells cs 43 (0, 0))) (u : Int) (hgd : o.guard = none) (s x : Operand)
    (ho : o.op = .call { callee := .builtin .append, args := #[s, x], argTypes := #[22, 22] }) (he : a.eval s = vo) (hx : a.eval x = .slice (some ⟨W.heap.size, 0, none⟩) 1 1) (hl : xo.length < 1000)
    (k : ∀ v1 w1, N2 W0 L w1 v1 vr (xo ++ [u]) xr → Blk w1 g (.cells cs 43 (0, 0)) → wpList Try.prog ops Q rest (a.put o.dst v1) w1) : wpList Try.prog ops Q (o :: rest) a (W.alloc (.cells #[.int .i64 u] 2)) :=
  app_list hgd s x L vo xo u ho he hx h.o h.lb hl (fun v1 w1 p q r => k v1 w1 ((h.alloc _).grow_o p q r) (blk_grown hb.alloc q (own_ne h.o hb.out (by decide))))
theorem pro_whole {am ds : List Int} {of : Int} (h : POk am ds of) : 0 ≤ (ppL am ds am.length).sum ∧ (ppL am ds am.length).sum ≤ 1125899906842624 * of * am.length := by
  have : ∀ n, n ≤ am.length → 0 ≤ (ppL am ds n).sum ∧ (ppL am ds n).sum ≤ 1125899906842624 * of * n := by
    intro n
    induction n with
    | zero => intro _; simp [ppL]
    | succ n ih =>
      intro hn
      have a := ih (by omega)
      obtain ⟨e0, e1, _, _⟩ := pp_rng h n (by omega)
      rw [ppL_succ, Int.natCast_add, Int.mul_add]
      omega
  exact this _ (Nat.le_refl _)
theorem pro_div {am ds : List Int} {of : Int} (h : 0 < of) (n : Nat) : (ppL am ds n).sum / of = (pqL am ds of n).sum + (prL am ds of n).sum / of := by
  rw [← pro_all am ds of n, Int.add_comm, Int.add_mul_ediv_left _ _ (by omega)]
  omega
theorem pqL_rng {am ds : List Int} {of : Int} (h : POk am ds of) : ∀ n, n ≤ am.length → 0 ≤ (pqL am ds of n).sum ∧ (pqL am ds of n).sum ≤ 1125899906842624 * n := by
  intro n
  induction n with
  | zero => intro _; simp [pqL]
  | succ n ih =>
    intro hn
    have a := ih (by omega)
    obtain ⟨_, _, e0, e1⟩ := pp_rng h n (by omega)
    rw [pqL_succ, List.sum_append, Int.natCast_add, Int.mul_add]
    simp only [List.sum_cons, List.sum_nil, Int.add_zero]
    omega
set_option maxRecDepth 100000 in
set_option maxHeartbeats 25600000 in
theorem refp_calls {n m c c' : Nat} (A B : Option Addr) (am ds : List Int) (of : Int) (hn : am.length = n) (hm : ds.length = m) (w : World) (hr : Kd.C (Kd.int .i64) w A n am) (hr' : Kd.C (Kd.int .i64) w B m ds) (hof : I64 of) (hda : ∀ x ∈ am, I64 x) (h1 : n ≤ 9223372036854775807) (h2 : m ≤ 9223372036854775807) :
    Calls Try.prog 13 #[.slice A n c, .slice B m c', .int .i64 of] w fun e w' => ProPost am ds of w e w' := by
  subst hn
  subst hm
  have HR := Aside0.mk hr
  have HR2 := Aside0.mk hr'
  clear hr hr'
  by_cases c1 : am.length = ds.length
  rotate_left
  · have HE : Aside0 (¬ POk am ds of) := ⟨fun h => c1 h.len⟩
    have z1 : ((am.length : Int) != (ds.length : Int)) = true := by rw [bne_iff_ne]; omega
    clear c1 hof
    go_enter Try.func13, Try.ntmps13
    go_wp2_with fail
    go_ret2
    exact ProPost.err HE.out (Below.refl _ _)
  have z1 : ((am.length : Int) != (ds.length : Int)) = false := by rw [bne_eq_false_iff_eq]; omega
  by_cases c2 : am.length < 1
  · have HE : Aside0 (¬ POk am ds of) := ⟨fun h => by have := h.lo; omega⟩
    have z2 : (am.length : Int) < 1 := by omega
    clear hof c1  
    go_enter Try.func13, Try.ntmps13
    go_wp2_with fail
    go_ret2
    exact ProPost.err HE.out (Below.refl _ _)
  have zc2 : ¬ (am.length : Int) < 1 := by omega
  by_cases c3 : 100 < am.length
  · have HE : Aside0 (¬ POk am ds of) := ⟨fun h => by have := h.hi; omega⟩
    have z2 : (100 : Int) < (am.length : Int) := by omega
    clear hof c1 c2 
    go_enter Try.func13, Try.ntmps13
    go_wp2_with fail
    go_ret2
    exact ProPost.err HE.out (Below.refl _ _)
  have zc3 : ¬ (100 : Int) < (am.length : Int) := by omega
  by_cases c4 : of < 1
  · have HE : Aside0 (¬ POk am ds of) := ⟨fun h => by have := h.o1; omega⟩
    have z2 : of < 1 := by omega
    clear hof c1 c2 c3
    go_enter Try.func13, Try.ntmps13
    go_wp2_with fail
    go_ret2
    exact ProPost.err HE.out (Below.refl _ _)
  have zc4 : ¬ of < 1 := by omega
  by_cases c5 : 10000 < of
  · have HE : Aside0 (¬ POk am ds of) := ⟨fun h => by have := h.o2; omega⟩
    have z2 : 10000 < of := by omega
    clear hof c1 c2 c3
    go_enter Try.func13, Try.ntmps13
    go_wp2_with fail
    go_ret2
    exact ProPost.err HE.out (Below.refl _ _)
  have zc5 : ¬ 10000 < of := by omega
  have LEN := Aside0.mk c1
  have z6 : (of == 0) = false := by rw [beq_eq_false_iff_ne]; omega
  have z7 : IntKind.u64.wrap of = of := by rw [IntKind.wrap_u64]; omega
  have HDA := Aside0.mk hda
  obtain ⟨o0, o1, o2, o3, hv0, hc0⟩ := big_named 0
  have H0 := Aside0.mk (show bigC 0 = .cells #[.int .u64 0, .int .u64 0, .int .u64 0, .int .u64 0] 43 from rfl)
  clear c1 hof hda hv0 hc0
  go_enter Try.func13, Try.ntmps13
  go_wp2_with fail
  go_loopw [9, 11, 12] (fun vo vs vi wr => ∃ k : Nat, k ≤ am.length ∧ vi = .int .i64 k ∧ vs = .int .i64 (pqL am ds of k).sum ∧ Aside0 (N2 w w.heap.size wr vo (.slice none 0 0) (pqL am ds of k) []) ∧ Aside0 (Blk wr w.heap.size (bigC (ppL am ds k).sum)) ∧ Aside0 (∀ i, i < k → Good am ds of i)) (fun _ _ i _ => am.length - (intOf i).toNat)
  case atStart => exact ⟨0, Nat.zero_le _, rfl, rfl, ⟨own_nil _ _ _ _, own_nil _ _ _ _, fun k hk => by simp [Value.ownBlock] at hk, by rw [size_alloc]; omega, below_alloc (Below.refl _ _) _⟩, ⟨Blk.new_⟩, ⟨fun i hi => by omega⟩⟩
  case round =>
    obtain ⟨k, hk, rfl, rfl, HN, HBK, HG⟩ := hrel
    by_cases hlt : k < am.length
    · have hlz : (k : Int) < (am.length : Int) := by omega
      have hlk : k < ds.length := by have := LEN.out; omega
      have hlz2 : (k : Int) < (ds.length : Int) := by omega
      obtain ⟨ad, e1, hx⟩ := Kd.at_int (Kd.C_below HR.out HN.out.low) k (by omega) (by omega)
      obtain ⟨ad2, e2, hy⟩ := Kd.at_int (Kd.C_below HR2.out HN.out.low) k (by omega) (by omega)
      cases e1
      cases e2
      simp only [Int.toNat_natCast] at hx hy
      obtain ⟨x, hx0⟩ : ∃ x, x = am.getD k 0 := ⟨_, rfl⟩
      obtain ⟨y, hy0⟩ : ∃ y, y = ds.getD k 0 := ⟨_, rfl⟩
      rw [show rd am (k : Int) = x by rw [hx0]; rfl] at hx
      rw [show rd ds (k : Int) = y by rw [hy0]; rfl] at hy
      have HX := Aside0.mk hx0
      have HY := Aside0.mk hy0
      clear hx0 hy0
      by_cases d1 : x < 0
      · have HE : Aside0 (¬ POk am ds of) := ⟨fun h => by have := (h.good k hlt).1; rw [← HX.out] at this; omega⟩
        go_wp2_with fail
        go_ret2
        exact ProPost.err HE.out HN.out.low
      by_cases d2 : 1125899906842624 < x
      · have HE : Aside0 (¬ POk am ds of) := ⟨fun h => by have := (h.good k hlt).2.1; rw [← HX.out] at this; omega⟩
        go_wp2_with fail
        go_ret2
        exact ProPost.err HE.out HN.out.low
      by_cases d3 : y < 0
      · have HE : Aside0 (¬ POk am ds of) := ⟨fun h => by have := (h.good k hlt).2.2.1; rw [← HY.out] at this; omega⟩
        go_wp2_with fail
        go_ret2
        exact ProPost.err HE.out HN.out.low
      by_cases d4 : of < y
      · have HE : Aside0 (¬ POk am ds of) := ⟨fun h => by have := (h.good k hlt).2.2.2; rw [← HY.out] at this; omega⟩
        go_wp2_with fail
        go_ret2
        exact ProPost.err HE.out HN.out.low
      have HGK : Aside0 (Good am ds of k) := ⟨by unfold Good; rw [← HX.out, ← HY.out]; omega⟩
      obtain ⟨pr, hpr⟩ : ∃ pr, pr = x * y := ⟨_, rfl⟩
      have hp0 : 0 ≤ pr := by rw [hpr]; exact Int.mul_nonneg (by omega) (by omega)
      have hp1 : pr ≤ 1125899906842624 * of := by rw [hpr]; exact Int.mul_le_mul (by omega) (by omega) (by omega) (by omega)
      obtain ⟨p, hp⟩ : ∃ p, p = IntKind.i64.wrap (x * y) := ⟨_, rfl⟩
      obtain ⟨q, hq⟩ : ∃ q, q = pr / of := ⟨_, rfl⟩
      have hq0 : 0 ≤ q := by rw [hq]; exact Int.ediv_nonneg hp0 (by omega)
      have hq1 : q ≤ 1125899906842624 := by
        rw [hq]
        calc pr / of ≤ 1125899906842624 * of / of := Int.ediv_le_ediv (by omega) hp1
          _ = 1125899906842624 := Int.mul_ediv_cancel _ (by omega)
      have u1 : IntKind.i64.wrap (x * y) = p := hp.symm
      have u2 : IntKind.u64.wrap p = pr := by rw [hp, ← hpr, IntKind.wrap_i64, IntKind.wrap_u64]; omega
      have u3 : pr.tdiv of = q := by rw [hq, Int.tdiv_eq_ediv_of_nonneg hp0]
      have u3' : pr / of = q := hq.symm
      have u4 : IntKind.i64.wrap q = q := by rw [IntKind.wrap_i64]; omega
      have u6 : IntKind.u64.wrap q = q := by rw [IntKind.wrap_u64]; omega
      have u7 : wrap64 q = q := by unfold wrap64; omega
      obtain ⟨s, hs⟩ : ∃ s, s = (pqL am ds of k).sum := ⟨_, rfl⟩
      have hsr : 0 ≤ s ∧ s ≤ 1125899906842624 * k := by
        have : ∀ n, n ≤ k → 0 ≤ (pqL am ds of n).sum ∧ (pqL am ds of n).sum ≤ 1125899906842624 * n := by
          intro n
          induction n with
          | zero => intro _; simp [pqL]
          | succ n ih =>
            intro hn
            have a := ih (by omega)
            have g := HG.out n (by omega)
            unfold Good at g
            have e0 : 0 ≤ pp am ds n := Int.mul_nonneg g.1 g.2.2.1
            have e1 : pp am ds n ≤ 1125899906842624 * of := Int.mul_le_mul g.2.1 g.2.2.2 g.2.2.1 (by omega)
            have e2 : 0 ≤ pp am ds n / of := Int.ediv_nonneg e0 (by omega)
            have e3 : pp am ds n / of ≤ 1125899906842624 := by
              calc pp am ds n / of ≤ 1125899906842624 * of / of := Int.ediv_le_ediv (by omega) e1
                _ = 1125899906842624 := Int.mul_ediv_cancel _ (by omega)
            rw [pqL_succ, List.sum_append, Int.natCast_add, Int.mul_add]
            simp only [List.sum_cons, List.sum_nil, Int.add_zero]
            omega
        rw [hs]; exact this k (Nat.le_refl _)
      have u5 : IntKind.i64.wrap (s + q) = s + q := by rw [IntKind.wrap_i64]; omega
      have HPR := Aside0.mk (show pp am ds k = pr by unfold pp; rw [← HX.out, ← HY.out, hpr])
      have HQ := Aside0.mk (show pp am ds k / of = q by rw [hq]; unfold pp; rw [← HX.out, ← HY.out, hpr])
      have HSS := Aside0.mk hs
      have ix : I64 x := by unfold I64; omega
      have iy : I64 y := by unfold I64; omega
      have k1 := Aside0.mk (fun w => refOf x ix w)
      have k2 := Aside0.mk (fun w => refOf y iy w)
      have k3 := Aside0.mk (fun w => refMul x y w)
      have k4 := Aside0.mk (fun w => refAdd (ppL am ds k).sum pr w)
      rw [← hpr] at k3
      obtain ⟨bs, hbs⟩ : ∃ bs, (ppL am ds k).sum = bs := ⟨_, rfl⟩
      have HBS := Aside0.mk hbs
      rw [hbs] at HBK k4
      obtain ⟨d0, d1', d2', d3', hv, hc⟩ := big_named bs
      obtain ⟨o0, o1, o2, o3, hv2, hc2⟩ := big_named (bs + pr)
      have HC2 := Aside0.mk hc2
      obtain ⟨X, hX⟩ : ∃ X, bigV x = X := ⟨_, rfl⟩
      obtain ⟨Y, hY⟩ : ∃ Y, bigV y = Y := ⟨_, rfl⟩
      obtain ⟨Z, hZ⟩ : ∃ Z, bigV pr = Z := ⟨_, rfl⟩
      rw [hX] at k1 k3
      rw [hY] at k2 k3
      rw [hZ] at k3 k4
      rw [hv, hv2] at k4
      rw [hc] at HBK
      have hlo2 : (pqL am ds of k).length < 1000 := by rw [pqL_len]; omega
      rw [← hs]
      have bx := Aside0.mk (World.block_lt_of_cell? wr _ hx)
      have by_ := Aside0.mk (World.block_lt_of_cell? wr _ hy)
      clear hv hv2 hc hc2 hX hY hZ hbs hs hsr hp hq hpr hq0 hq1 ix iy hp1
      have hw0 : w.heap.size ≤ wr.heap.size := HN.out.lb
      go_wp2_with fail
      go_quiet (fail)
      have HN0 := Aside0.mk (HN.out.below (pw_below_drewN (Below.refl _ _) nq))
      have HB0 := Aside0.mk (HBK.out.drewN (n := nq))
      have hx2 : (wr.drewN nq).cell? (ad.add k) = some (.int .i64 x) := hx
      have hy2 : (wr.drewN nq).cell? (ad2.add k) = some (.int .i64 y) := hy
      have bx2 := Aside0.mk (show (ad.add k).block < (wr.drewN nq).heap.size from bx.out)
      have by2 := Aside0.mk (show (ad2.add k).block < (wr.drewN nq).heap.size from by_.out)
      clear hx hy bx by_ HN HBK
      generalize wr.drewN nq = wv at HN0 HB0 hx2 hy2 bx2 by2 ⊢
      have q0 := HB0.out.cell 0
      have q1 := HB0.out.cell 1
      have q2 := HB0.out.cell 2
      have q3 := HB0.out.cell 3
      simp at q0 q1 q2 q3
      go_wp2_with fail
      have hx3 : wv.drew.cell? (ad.add k) = some (.int .i64 x) := hx2
      have hy3 : wv.drew.cell? (ad2.add k) = some (.int .i64 y) := hy2
      go_region_with (first | (go_at_call 23; (with_reducible refine (k1.out _).mono ?_); rintro e w1 ⟨rfl, hb⟩; have Q1 := Aside0.mk (HB0.out.drew.below hb); have M1 := Aside0.mk (HN0.out.drew.below hb); have p0 := Q1.out.cell 0; have p1 := Q1.out.cell 1; have p2 := Q1.out.cell 2; have p3 := Q1.out.cell 3; simp at p0 p1 p2 p3; have hxx1 := (hb.cell (World.block_lt_of_cell? _ _ hx3)).trans hx3; have hyy1 := (hb.cell (World.block_lt_of_cell? _ _ hy3)).trans hy3; clear hb) | (go_at_call 23; (with_reducible refine (k2.out _).mono ?_); rintro e w2 ⟨rfl, hb⟩; have Q2 := Aside0.mk (Q1.out.below hb); have M2 := Aside0.mk (M1.out.below hb); have p0 := Q2.out.cell 0; have p1 := Q2.out.cell 1; have p2 := Q2.out.cell 2; have p3 := Q2.out.cell 3; simp at p0 p1 p2 p3; have hxx2 := (hb.cell (World.block_lt_of_cell? _ _ hxx1)).trans hxx1; have hyy2 := (hb.cell (World.block_lt_of_cell? _ _ hyy1)).trans hyy1; clear hb) | (go_at_call 22; (with_reducible refine (k3.out _).mono ?_); rintro e w3 ⟨rfl, hb⟩; have Q3 := Aside0.mk (Q2.out.below hb); have M3 := Aside0.mk (M2.out.below hb); have p0 := Q3.out.cell 0; have p1 := Q3.out.cell 1; have p2 := Q3.out.cell 2; have p3 := Q3.out.cell 3; simp at p0 p1 p2 p3; have hxx3 := (hb.cell (World.block_lt_of_cell? _ _ hxx2)).trans hxx2; have hyy3 := (hb.cell (World.block_lt_of_cell? _ _ hyy2)).trans hyy2; clear hb) | (go_at_call 21; (with_reducible refine (k4.out _).mono ?_); rintro e w4 ⟨rfl, hb⟩; have Q4 := Aside0.mk (Q3.out.below hb); have M4 := Aside0.mk (M3.out.below hb); have p0 := Q4.out.cell 0; have p1 := Q4.out.cell 1; have p2 := Q4.out.cell 2; have p3 := Q4.out.cell 3; simp at p0 p1 p2 p3; have hxx4 := (hb.cell (World.block_lt_of_cell? _ _ hxx3)).trans hxx3; have hyy4 := (hb.cell (World.block_lt_of_cell? _ _ hyy3)).trans hyy3; have z0 := Q4.out.free 0; have z1 := Q4.out.free 1; have z2 := Q4.out.free 2; have z3 := Q4.out.free 3; clear hb))
      all_goals
        have RB := Aside0.mk (Blk.put4 Q4.out (.int .u64 o0) (.int .u64 o1) (.int .u64 o2) (.int .u64 o3))
        have RN := Aside0.mk (M4.out.put4 Q4.out (Nat.le_refl _) (.int .u64 o0) (.int .u64 o1) (.int .u64 o2) (.int .u64 o3))
        generalize ((((w4.setCell ⟨w.heap.size, 0, none⟩ (.int .u64 o0)).setCell ⟨w.heap.size, 1, none⟩ (.int .u64 o1)).setCell ⟨w.heap.size, 2, none⟩ (.int .u64 o2)).setCell ⟨w.heap.size, 3, none⟩ (.int .u64 o3)) = w5 at RB RN ⊢
        clear k1 k2 k3 k4
        go_wp2_with (at_builtin; refine RN.out.app_ob RB.out q rfl (.tmp 100) (.tmp 102) rfl rfl rfl hlo2 ?_; intro vo1 w6 h6 hb6; have HN6 := Aside0.mk h6; have HB6 := Aside0.mk hb6; clear h6 hb6)
        go_roundw
        case measure => simp [intOf]; omega
        case rel =>
          refine ⟨k + 1, by omega, by go_num, by rw [pqL_succ, List.sum_append, ← HSS.out, HQ.out]; simp, ⟨?_⟩, ⟨?_⟩, ⟨fun i hi => ?_⟩⟩
          · rw [pqL_succ, HQ.out]; exact HN6.out
          · rw [ppL_succ, HBS.out, HPR.out, HC2.out]; exact HB6.out
          · by_cases e : i = k
            · subst e; exact HGK.out
            · exact HG.out i (by omega)
    · obtain rfl : k = am.length := by omega
      have hlz : ¬ ((am.length : Int)) < (am.length : Int) := by omega
      have hp := good_all LEN.out (by omega) (by omega) c4 c5 HG.out
      have HE := Aside0.mk hp
      have hwh := pro_whole hp
      have hqs := pqL_rng hp am.length (Nat.le_refl _)
      have hdv := pro_div (am := am) (ds := ds) (of := of) (by omega) am.length
      have hrs := prL_rng am ds of (by omega) am.length
      have hn := HN.out
      have o1 := hn.o
      rw [pqL_len] at o1
      obtain ⟨go, co, cuo, rfl, lo1, lo2, lo3, lo4⟩ := row_of_own o1 (by omega) (pqL_len _ _ _ _)
      have HRI := Aside0.mk (show RowI wr go am.length (fun i => pp am ds i / of) from ⟨cuo, lo3, fun i hi => by rw [lo4 i hi, pqL_at _ _ _ _ _ hi]⟩)
      have HLOW := Aside0.mk hn.low
      have LO1 := Aside0.mk lo1
      have LO2 := Aside0.mk lo2
      obtain ⟨N, hN⟩ : ∃ N, N = (ppL am ds am.length).sum := ⟨_, rfl⟩
      obtain ⟨D, hD⟩ : ∃ D, D = (pqL am ds of am.length).sum := ⟨_, rfl⟩
      obtain ⟨R, hR⟩ : ∃ R, R = (prL am ds of am.length).sum / of := ⟨_, rfl⟩
      rw [← hN] at HBK hwh hdv
      rw [← hD] at hqs hdv
      rw [← hR] at hdv
      rw [← hD]
      have hR0 : 0 ≤ R := by rw [hR]; exact Int.ediv_nonneg hrs.1 (by omega)
      have hR1 : R ≤ 100 := by
        rw [hR]
        calc (prL am ds of am.length).sum / of ≤ of * (am.length : Int) / of := Int.ediv_le_ediv (by omega) hrs.2
          _ = (am.length : Int) := Int.mul_ediv_cancel_left _ (by omega)
          _ ≤ 100 := by omega
      have HRR := Aside0.mk hR
      have HDV := Aside0.mk hdv
      have hN0 := hwh.1
      have hT : N / of ≤ 1125899906842624 * 100 + 100 := by rw [hdv]; omega
      have hmono : ∀ k : Nat, 0 ≤ N / 2 ^ k / of ∧ N / 2 ^ k / of ≤ 1125899906842624 * 100 + 100 := fun k => by
        have h2 : (0 : Int) < 2 ^ k := Int.pow_pos (by decide)
        have a := Int.ediv_nonneg hN0 (Int.le_of_lt h2)
        have b := Int.ediv_le_self (2 ^ k) hN0
        have c := Int.ediv_le_ediv (show 0 < of by omega) b
        exact ⟨Int.ediv_nonneg a (by omega), by omega⟩
      have HMO := Aside0.mk hmono
      have hNb : N < 2 ^ 128 := by
        have : N ≤ 1125899906842624 * 10000 * 100 := by
          refine Int.le_trans hwh.2 (Int.mul_le_mul (Int.mul_le_mul (Int.le_refl _) c5 (by omega) (by omega)) (by omega) (by omega) (by omega))
        refine Int.lt_of_le_of_lt this (by decide)
      have HNB := Aside0.mk hNb
      obtain ⟨n0, n1, n2, n3, hv, hc⟩ := big_named N
      rw [hc] at HBK
      have HNC := Aside0.mk hc
      clear hv hc hwh hdv hrs hn o1 lo1 lo2 lo3 lo4 hmono hNb HN HG hN hD hR hp
      go_wp2
      go_loopw [15, 16, 17] (fun vt vr vi wx => ∃ j : Nat, j ≤ 128 ∧ vi = .int .i64 (127 - (j : Int)) ∧ vt = .int .i64 (N / 2 ^ (128 - j) / of) ∧ vr = .int .i64 (N / 2 ^ (128 - j) % of) ∧ wr = wx) (fun _ _ i _ => (intOf i + 1).toNat)
      case atStart =>
        have e0 : N / 2 ^ (128 - 0) = 0 := Int.ediv_eq_zero_of_lt hN0 HNB.out
        exact ⟨0, by omega, rfl, by rw [e0]; simp, by rw [e0]; simp, rfl⟩
      case round =>
        obtain ⟨j, hj, rfl, rfl, rfl, rfl⟩ := hrel
        by_cases hlt2 : j < 128
        · obtain ⟨m, e1, e2, hml⟩ : ∃ m : Nat, (127 : Int) - (j : Int) = (m : Int) ∧ 128 - j = m + 1 ∧ m < 128 := ⟨127 - j, by omega, by omega, by omega⟩
          have e3 : 128 - (j + 1) = m := by omega
          have E1 := Aside0.mk e1
          have E3 := Aside0.mk e3
          rw [e1, e2]
          obtain ⟨bit, hbit, hb0, hb1, hr0, hr1, hyes, hno⟩ := part_step N of m hN0 c4
          obtain ⟨nd, hnd, hndb, hnd0, hnd1⟩ := part_digit N m hml n0 n1 n2 n3 HNC.out
          have hqb := HMO.out (m + 1)
          rw [← hbit] at hndb
          obtain ⟨q, hq⟩ : ∃ q, q = N / 2 ^ (m + 1) / of := ⟨_, rfl⟩
          obtain ⟨r, hr⟩ : ∃ r, r = N / 2 ^ (m + 1) % of := ⟨_, rfl⟩
          rw [← hq] at hyes hno hqb ⊢
          rw [← hr] at hyes hno hr0 hr1 ⊢
          have nn := HBK.out.cell (m / 32)
          rw [hnd] at nn
          have hqm : (nd / 2 ^ (m % 32)).tmod 2 = bit := by
            rw [Int.natCast_pow] at hndb
            rw [Int.tmod_eq_emod_of_nonneg (Int.ediv_nonneg hnd0 (Int.le_of_lt (Int.pow_pos (by decide))))]
            exact hndb
          have hdig : m / 32 < 4 := by omega
          have v1 : IntKind.i64.wrap (2 * q) = 2 * q := by rw [IntKind.wrap_i64]; omega
          have v2 : IntKind.i64.wrap (2 * r) = 2 * r := by rw [IntKind.wrap_i64]; omega
          have v3 : IntKind.i64.wrap (2 * r + bit) = 2 * r + bit := by rw [IntKind.wrap_i64]; omega
          have v4 : IntKind.i64.wrap bit = bit := by rw [IntKind.wrap_i64]; omega
          have v5 : IntKind.u64.wrap bit = bit := by rw [IntKind.wrap_u64]; omega
          have v6 : wrap64 bit = bit := by unfold wrap64; omega
          have v7 : IntKind.i64.wrap (2 * q + 1) = 2 * q + 1 := by rw [IntKind.wrap_i64]; omega
          have v8 : IntKind.i64.wrap (2 * r + bit - of) = 2 * r + bit - of := by rw [IntKind.wrap_i64]; omega
          have HY := Aside0.mk hyes
          have HNo := Aside0.mk hno
          clear hyes hno hndb hbit hq hr hnd e1 e2 e3 hqb
          by_cases hc : 2 * r + bit < of
          · go_wp2_with fail
            have e5 := E1.out
            have hy := HY.out (by omega)
            exact ⟨⟨j + 1, by omega, by congr 1; omega, by rw [E3.out, hy.1]; congr 1; omega, by rw [E3.out, hy.2]; congr 1; omega, by trivial⟩, by simp [intOf]⟩
          · go_wp2_with fail
            have e5 := E1.out
            have hy := HNo.out (by omega)
            exact ⟨⟨j + 1, by omega, by congr 1; omega, by rw [E3.out, hy.1]; congr 1; omega, by rw [E3.out, hy.2]; congr 1; omega, by trivial⟩, by simp [intOf]⟩
        · obtain rfl : j = 128 := by omega
          have e0 : N / 2 ^ (128 - 128) = N := by simp
          rw [e0]
          obtain ⟨t, ht⟩ : ∃ t, t = am.length - 1 := ⟨_, rfl⟩
          have htn : t < am.length := by omega
          have ct := HRI.out.cell htn
          have ft := HRI.out.free t
          have hpr := pp_rng HE.out t htn
          obtain ⟨q, hq⟩ : ∃ q, q = pp am ds t / of := ⟨_, rfl⟩
          rw [← hq] at ct hpr
          obtain ⟨T, hTT⟩ : ∃ T, T = N / of := ⟨_, rfl⟩
          have hTD : T = D + R := by rw [hTT]; exact HDV.out
          rw [← hTT]
          have v1 : IntKind.i64.wrap (q + T) = q + T := by rw [IntKind.wrap_i64]; omega
          have v2 : IntKind.i64.wrap (q + T - D) = q + R := by rw [IntKind.wrap_i64]; omega
          have v3 : IntKind.i64.wrap ((am.length : Int) - 1) = (t : Int) := by rw [IntKind.wrap_i64]; omega
          have v4 : (t : Int) < (am.length : Int) := by omega
          have HT := Aside0.mk (show t + 1 = am.length by omega)
          have HQ := Aside0.mk hq
          generalize N % of = rr
          clear hq ht hpr hTT hTD hT hqs
          go_wp2_with fail
          go_ret2
          have hput := HRI.out.put htn (q + R)
          have hb := HLOW.out.grown (grown_put wr go t (.int .i64 (q + R))) HLOW.out.size (fun k hk => by injection hk with hk; rw [← hk]; exact LO1.out)
          have hrd := hput.reads (proL am ds of am.length) (proL_len _ _ _ _) (fun i hi => by
            rw [proL_at _ _ _ _ _ hi]
            unfold proF
            have := HT.out
            by_cases e : i = t
            · subst e; rw [if_pos this, if_pos rfl, HQ.out, HRR.out]
            · rw [if_neg (by omega), if_neg e]) (by omega)
          exact ⟨some ⟨go, 0, none⟩, co, 0, proL am ds of am.length, by rw [proL_len]; rfl, by rw [proL_len]; exact hrd, ⟨fun _ => ⟨rfl, rfl⟩, fun k => (k HE.out).elim⟩, hb, by rw [proL_len]; omega, by rw [proL_len]; exact LO2.out⟩
end Go.Proofs.Ytimdoddaaelfjaa.Ext
