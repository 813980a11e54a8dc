/- msg.same, of a request with a plan. -/
import Derived.Test.YtanjkhdagegapaaMSame
namespace Go.Proofs.Ytanjkhdagegapaa.Ext
open Go.RowKit Go.MapKept Go.Shelf Go.Proofs.YtanjkhdagegapaaW.PrintWords Go.Proofs.YtanjkhdagegapaaW.PrintLast Go.Proofs.YtanjkhdagegapaaW.PrintMore Go.Proofs.YtanjkhdagegapaaW.Hand Go.Proofs.Ytanjkhdagegapaa.PZ
set_option linter.unusedVariables false
set_option linter.unusedSimpArgs false
set_option maxRecDepth 100000 in
set_option maxHeartbeats 25600000 in
theorem same_A (x y : RQ) (A A' : Option Addr) (c c' : Nat) (w : World) (hpx : plainB x = false) (hC : Kd.C k39 w A x.f8.f6.length x.f8.f6) (hc : x.f8.f6.length ≤ c) (hC' : Kd.C k39 w A' y.f8.f6.length y.f8.f6) (hc' : y.f8.f6.length ≤ c') :
    Calls Try.prog 25 #[.agg (rqC x A x.f8.f6.length c), .agg (rqC y A' y.f8.f6.length c')] w fun e w' => e = .returned (.bool (sameB x y)) ∧ Below w.heap.size w w' := by
  have HL := Aside0.mk (below_alloc (below_alloc (Below.refl _ w) (.cells (rqC x A x.f8.f6.length c) 27)) (.cells (rqC y A' y.f8.f6.length c') 27))
  have HC := Aside0.mk hC
  have HC' := Aside0.mk hC'
  have Q0 := Aside0.mk (Blk.alloc (Blk.new_ (W := w) (o := .cells (rqC x A x.f8.f6.length c) 27)) (o' := .cells (rqC y A' y.f8.f6.length c') 27))
  have Q1 := Aside0.mk (Blk.new (W := w.alloc (.cells (rqC x A x.f8.f6.length c) 27)) (g := w.heap.size + 1) (o := .cells (rqC y A' y.f8.f6.length c') 27) (by simp))
  have kp := Aside0.mk (plan_Put_go x.f8.f0 x.f8.f1 x.f8.f2 x.f8.f3 x.f8.f4 x.f8.f5 A c x.f8.f6 _ (Kd.C_below hC HL.out) hc)
  rw [show pput x.f8.f0 x.f8.f1 x.f8.f2 x.f8.f3 x.f8.f4 x.f8.f5 x.f8.f6 = rqPut x from rfl] at kp
  clear hC hC'
  go_enter Try.func25, Try.ntmps25
  go_wp2_with fail
  (with_reducible refine kp.out.mono ?_)
  rintro e w1 ⟨v1, rfl, hr1, hb1⟩
  obtain ⟨A1, c1, rfl⟩ := Kd.R_slice hr1
  have HR1 := Aside0.mk hr1
  have HB1 := Aside0.mk (below_step HL.out hb1)
  have Q01 := Aside0.mk (Q0.out.below hb1)
  have Q11 := Aside0.mk (Q1.out.below hb1)
  have kp2 := Aside0.mk (plan_Put_go y.f8.f0 y.f8.f1 y.f8.f2 y.f8.f3 y.f8.f4 y.f8.f5 A' c' y.f8.f6 _ (Kd.C_below HC'.out HB1.out) hc')
  rw [show pput y.f8.f0 y.f8.f1 y.f8.f2 y.f8.f3 y.f8.f4 y.f8.f5 y.f8.f6 = rqPut y from rfl] at kp2
  obtain ⟨x0, x1, x2, x3, x4, x5, x6, x7, x8, x9, x10, x11, x12, x13, x14⟩ := rq_cells Q01.out.out
  obtain ⟨y0, y1, y2, y3, y4, y5, y6, y7, y8, y9, y10, y11, y12, y13, y14⟩ := rq_cells Q11.out.out
  clear hr1 hb1 kp Q0 Q1
  go_wp2_with fail
  (with_reducible refine kp2.out.mono ?_)
  rintro e w2 ⟨v2, rfl, hr2, hb2⟩
  obtain ⟨A2, c2, rfl⟩ := Kd.R_slice hr2
  have HR2 := Aside0.mk hr2
  have HR12 := Aside0.mk (Kd.R_below HR1.out hb2)
  have HB2 := Aside0.mk (below_step HB1.out hb2)
  have Q02 := Aside0.mk (Q01.out.below hb2)
  have Q12 := Aside0.mk (Q11.out.below hb2)
  have kx := Aside0.mk (plain_calls x A c _ (Kd.C_below HC.out HB2.out) hc)
  clear x0 x1 x2 x3 x4 x5 x6 x7 x8 x9 x10 x11 x12 x13 x14 y0 y1 y2 y3 y4 y5 y6 y7 y8 y9 y10 y11 y12 y13 y14
  obtain ⟨x0, x1, x2, x3, x4, x5, x6, x7, x8, x9, x10, x11, x12, x13, x14⟩ := rq_cells Q02.out.out
  obtain ⟨y0, y1, y2, y3, y4, y5, y6, y7, y8, y9, y10, y11, y12, y13, y14⟩ := rq_cells Q12.out.out
  clear hr2 hb2 kp2 Q01 Q11 HR1
  go_wp2_with fail
  (with_reducible refine kx.out.mono ?_)
  rintro e w3 ⟨rfl, hb3⟩
  have HR13 := Aside0.mk (Kd.R_below HR12.out hb3)
  have HR23 := Aside0.mk (Kd.R_below HR2.out hb3)
  have HB3 := Aside0.mk (below_step HB2.out hb3)
  have Q03 := Aside0.mk (Q02.out.below hb3)
  have Q13 := Aside0.mk (Q12.out.below hb3)
  have ky := Aside0.mk (plain_calls y A' c' _ (Kd.C_below HC'.out HB3.out) hc')
  clear x0 x1 x2 x3 x4 x5 x6 x7 x8 x9 x10 x11 x12 x13 x14 y0 y1 y2 y3 y4 y5 y6 y7 y8 y9 y10 y11 y12 y13 y14
  obtain ⟨x0, x1, x2, x3, x4, x5, x6, x7, x8, x9, x10, x11, x12, x13, x14⟩ := rq_cells Q03.out.out
  obtain ⟨y0, y1, y2, y3, y4, y5, y6, y7, y8, y9, y10, y11, y12, y13, y14⟩ := rq_cells Q13.out.out
  clear hb3 Q02 Q12 HR12 HR2
  simp only [hpx]
  clear x8 x9 x10 x11 x12 x13 x14 y8 y9 y10 y11 y12 y13 y14
  have kcx := own_string (P := Try.prog) Try.underlying29 Try.underlying5 Try.underlying9 (Kd.own_of_R HR13.out)
  have kcy := own_string (P := Try.prog) Try.underlying29 Try.underlying5 Try.underlying9 (Kd.own_of_R HR23.out)
  go_wp2_with fail
  all_goals first
    | exact (same_absurd ‹_›).elim
    | (go_ret; exact ⟨by simp [sameB, putTail, *], HB3.out⟩)
end Go.Proofs.Ytanjkhdagegapaa.Ext
