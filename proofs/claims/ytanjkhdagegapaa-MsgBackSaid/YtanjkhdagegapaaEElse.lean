/- MsgElse, proved by walking its code. -/
import Derived.Test.YtanjkhdagegapaaG7
import Derived.Test.YtanjkhdagegapaaEPlain
import Derived.Test.YtanjkhdagegapaaPZx2
namespace Go.Proofs.Ytanjkhdagegapaa.Ext
open Go.RowKit Go.ChangeShapes Go.WideShapes Go.Shelf Go.Proofs.YtanjkhdagegapaaW.PrintWords Go.Proofs.YtanjkhdagegapaaW.PrintLast Go.Proofs.YtanjkhdagegapaaW.PrintMore Go.Proofs.YtanjkhdagegapaaW.Hand Go.Proofs.Ytanjkhdagegapaa.PZ
set_option linter.unusedVariables false
set_option linter.unusedSimpArgs false
structure YOk (x : RQ) : Prop where
  ok : RqOk x
  pl : PlR x
  len : x.f8.f6.length ≤ 1000
theorem great_calls (x : RQ) (A : Option Addr) (c : Nat) (w : World) (g : Bool) (hC : Kd.C k39 w A x.f8.f6.length x.f8.f6) (hc : x.f8.f6.length ≤ c) (hg : quitrentlaw25_great.f x.f0 x.f1 x.f2 x.f3 x.f4 x.f5 x.f6 x.f7 x.f8.f0 x.f8.f1 x.f8.f2 x.f8.f3 x.f8.f4 x.f8.f5 x.f8.f6 = some g) :
    Calls Try.prog 9 #[.agg (rqC x A x.f8.f6.length c)] w fun e w' => e = .returned (.bool g) ∧ Below w.heap.size w w' :=
  quitrentlaw25_great.calls x.f0 x.f1 x.f2 x.f3 x.f4 x.f5 x.f6 x.f7 x.f8.f0 x.f8.f1 x.f8.f2 x.f8.f3 x.f8.f4 x.f8.f5 A c x.f8.f6 g w hC hc hg
theorem same_true (x : RQ) (A A' : Option Addr) (c c' : Nat) (w : World) (hC : Kd.C k39 w A x.f8.f6.length x.f8.f6) (hc : x.f8.f6.length ≤ c) (hC' : Kd.C k39 w A' x.f8.f6.length x.f8.f6) (hc' : x.f8.f6.length ≤ c') (hl : x.f8.f6.length ≤ 1000) :
    Calls Try.prog 13 #[.agg (rqC x A x.f8.f6.length c), .agg (rqC x A' x.f8.f6.length c')] w fun e w' => e = .returned (.bool true) ∧ Below w.heap.size w w' :=
  quitrentref25_Same.calls x.f0 x.f1 x.f2 x.f3 x.f4 x.f5 x.f6 x.f7 x.f8.f0 x.f8.f1 x.f8.f2 x.f8.f3 x.f8.f4 x.f8.f5 A c x.f8.f6 x.f0 x.f1 x.f2 x.f3 x.f4 x.f5 x.f6 x.f7 x.f8.f0 x.f8.f1 x.f8.f2 x.f8.f3 x.f8.f4 x.f8.f5 A' c' x.f8.f6 true w hC hc hC' hc' (same_self x hl)
set_option maxRecDepth 100000 in
set_option maxHeartbeats 3200000 in
theorem else_great (x : RQ) (A : Option Addr) (c : Nat) (a1 a2 : Int) (w : World) (hC : Kd.C k39 w A x.f8.f6.length x.f8.f6) (hc : x.f8.f6.length ≤ c) (hg : quitrentlaw25_great.f x.f0 x.f1 x.f2 x.f3 x.f4 x.f5 x.f6 x.f7 x.f8.f0 x.f8.f1 x.f8.f2 x.f8.f3 x.f8.f4 x.f8.f5 x.f8.f6 = some true) :
    Calls Try.prog 3 #[.agg (rqC x A x.f8.f6.length c), .int .u8 a1, .int .u8 a2] w fun e w' => e = .returned (.bool true) ∧ Below w.heap.size w w' := by
  have HC := Aside0.mk hC
  have HQ := Aside0.mk (Blk.new_ (W := w) (o := .cells (rqC x A x.f8.f6.length c) 27)).out
  have HB0 := Aside0.mk (below_alloc (Below.refl w.heap.size w) (.cells (rqC x A x.f8.f6.length c) 27))
  obtain ⟨x0, x1, x2, x3, x4, x5, x6, x7, x8, x9, x10, x11, x12, x13, x14⟩ := rq_cells HQ.out
  clear hC
  go_enter Try.func3, Try.ntmps3
  go_wp2_with fail
  refine (great_calls x A c _ true (Kd.C_below HC.out HB0.out) hc hg).mono ?_
  rintro e w1 ⟨rfl, hb⟩
  have HB1 := Aside0.mk (below_step HB0.out hb)
  clear hb x0 x1 x2 x3 x4 x5 x6 x7 x8 x9 x10 x11 x12 x13 x14
  go_wp2_with fail
  go_ret
  exact ⟨rfl, HB1.out⟩
set_option maxRecDepth 100000 in
set_option maxHeartbeats 3200000 in
theorem else_no (x : RQ) (A : Option Addr) (c : Nat) (a1 a2 : Int) (w : World) (hC : Kd.C k39 w A x.f8.f6.length x.f8.f6) (hc : x.f8.f6.length ≤ c) (hy : YOk x) (hk : (mput x).2 ≠ 0) (hg : quitrentlaw25_great.f x.f0 x.f1 x.f2 x.f3 x.f4 x.f5 x.f6 x.f7 x.f8.f0 x.f8.f1 x.f8.f2 x.f8.f3 x.f8.f4 x.f8.f5 x.f8.f6 = some false) :
    Calls Try.prog 3 #[.agg (rqC x A x.f8.f6.length c), .int .u8 a1, .int .u8 a2] w fun e w' => e = .returned (.bool true) ∧ Below w.heap.size w w' := by
  have HM := Aside0.mk (mput_no hk)
  clear hk
  have HC := Aside0.mk hC
  have HQ := Aside0.mk (Blk.new_ (W := w) (o := .cells (rqC x A x.f8.f6.length c) 27)).out
  have HB0 := Aside0.mk (below_alloc (Below.refl w.heap.size w) (.cells (rqC x A x.f8.f6.length c) 27))
  obtain ⟨x0, x1, x2, x3, x4, x5, x6, x7, x8, x9, x10, x11, x12, x13, x14⟩ := rq_cells HQ.out
  have HY := Aside0.mk hy
  clear hC hy
  go_enter Try.func3, Try.ntmps3
  go_wp2_with fail
  refine (great_calls x A c _ false (Kd.C_below HC.out HB0.out) hc hg).mono ?_
  rintro e w1 ⟨rfl, hb⟩
  have HB1 := Aside0.mk (below_step HB0.out hb)
  have HQ1 := Aside0.mk ((hb.block _ (Array.getElem?_eq_some_iff.1 HQ.out).1).trans HQ.out)
  clear hb x0 x1 x2 x3 x4 x5 x6 x7 x8 x9 x10 x11 x12 x13 x14 HQ HB0
  obtain ⟨x0, x1, x2, x3, x4, x5, x6, x7, x8, x9, x10, x11, x12, x13, x14⟩ := rq_cells HQ1.out
  go_wp2_with fail
  refine (PutRequest_go x A c _ (Kd.C_below HC.out HB1.out) hc HY.out.ok).mono ?_
  rintro e w2 ⟨v2, rfl, hr2, hb⟩
  have HB2 := Aside0.mk (below_step HB1.out hb)
  have HQ2 := Aside0.mk ((hb.block _ (Array.getElem?_eq_some_iff.1 HQ1.out).1).trans HQ1.out)
  rw [HM.out] at hr2 ⊢
  clear hb hr2 x0 x1 x2 x3 x4 x5 x6 x7 x8 x9 x10 x11 x12 x13 x14 HQ1 HB1
  dsimp only
  go_wp2_with fail
  refine (goes_true _).mono ?_
  rintro e w3 ⟨rfl, hb⟩
  have HB3 := Aside0.mk (below_step HB2.out hb)
  clear hb
  go_wp2_with fail
  go_ret
  exact ⟨rfl, HB3.out⟩
set_option maxRecDepth 100000 in
set_option maxHeartbeats 6400000 in
theorem else_yes (x : RQ) (A : Option Addr) (c : Nat) (a1 a2 : Int) (w : World) (hC : Kd.C k39 w A x.f8.f6.length x.f8.f6) (hc : x.f8.f6.length ≤ c) (hy : YOk x) (hk : (mput x).2 = 0) (hg : quitrentlaw25_great.f x.f0 x.f1 x.f2 x.f3 x.f4 x.f5 x.f6 x.f7 x.f8.f0 x.f8.f1 x.f8.f2 x.f8.f3 x.f8.f4 x.f8.f5 x.f8.f6 = some false) :
    Calls Try.prog 3 #[.agg (rqC x A x.f8.f6.length c), .int .u8 a1, .int .u8 a2] w fun e w' => e = .returned (.bool true) ∧ Below w.heap.size w w' := by
  have HM := Aside0.mk (mget_mput hy.ok hy.pl hk).1
  clear hk
  have HC := Aside0.mk hC
  have HQ := Aside0.mk (Blk.new_ (W := w) (o := .cells (rqC x A x.f8.f6.length c) 27)).out
  have HB0 := Aside0.mk (below_alloc (Below.refl w.heap.size w) (.cells (rqC x A x.f8.f6.length c) 27))
  obtain ⟨x0, x1, x2, x3, x4, x5, x6, x7, x8, x9, x10, x11, x12, x13, x14⟩ := rq_cells HQ.out
  have HY := Aside0.mk hy
  clear hC hy
  go_enter Try.func3, Try.ntmps3
  go_wp2_with fail
  refine (great_calls x A c _ false (Kd.C_below HC.out HB0.out) hc hg).mono ?_
  rintro e w1 ⟨rfl, hb⟩
  have HB1 := Aside0.mk (below_step HB0.out hb)
  have HQ1 := Aside0.mk ((hb.block _ (Array.getElem?_eq_some_iff.1 HQ.out).1).trans HQ.out)
  clear hb x0 x1 x2 x3 x4 x5 x6 x7 x8 x9 x10 x11 x12 x13 x14 HQ HB0
  obtain ⟨x0, x1, x2, x3, x4, x5, x6, x7, x8, x9, x10, x11, x12, x13, x14⟩ := rq_cells HQ1.out
  go_wp2_with fail
  refine (PutRequest_go x A c _ (Kd.C_below HC.out HB1.out) hc HY.out.ok).mono ?_
  rintro e w2 ⟨v2, rfl, hr2, hb⟩
  have HB2 := Aside0.mk (below_step HB1.out hb)
  have HQ2 := Aside0.mk ((hb.block _ (Array.getElem?_eq_some_iff.1 HQ1.out).1).trans HQ1.out)
  rw [HM.out] at hr2 ⊢
  obtain ⟨A2, c2, rfl⟩ := Kd.R_slice hr2
  clear hb hr2 x0 x1 x2 x3 x4 x5 x6 x7 x8 x9 x10 x11 x12 x13 x14 HQ1 HB1
  dsimp only
  obtain ⟨x0, x1, x2, x3, x4, x5, x6, x7, x8, x9, x10, x11, x12, x13, x14⟩ := rq_cells HQ2.out
  obtain ⟨LP, hLP⟩ : ∃ k, (putB x).length = k := ⟨_, rfl⟩
  rw [hLP]
  go_upto_block 0 with fail
  have HX3 := Aside0.mk (heap_new w2 (.cells (rqC x A x.f8.f6.length c) 27))
  have HB3 := Aside0.mk (below_alloc HB2.out (.cells (rqC x A x.f8.f6.length c) 27))
  have HS2 := Aside0.mk HB2.out.size
  clear x0 x1 x2 x3 x4 x5 x6 x7 x8 x9 x10 x11 x12 x13 x14 HQ2 HB2
  generalize w2.alloc (.cells (rqC x A x.f8.f6.length c) 27) = w3 at HX3 HB3 ⊢
  generalize w2.heap.size = X at HX3 HS2 ⊢
  go_cut [] (fun wc => ∃ y : RQ, Aside0 (YOk y) ∧ Aside0 (y.f8 = x.f8) ∧ Aside0 (wc.heap[X]? = some (.cells (rqC y A y.f8.f6.length c) 27 (0, 0))) ∧ Aside0 (Below w.heap.size w wc))
  case first =>
    obtain ⟨x0, x1, x2, x3, x4, x5, x6, x7, x8, x9, x10, x11, x12, x13, x14⟩ := rq_cells HX3.out
    have f1 := blk_frozen HX3.out 1
    have f2 := blk_frozen HX3.out 2
    have f3 := blk_frozen HX3.out 3
    have f4 := blk_frozen HX3.out 4
    have f5 := blk_frozen HX3.out 5
    have f6 := blk_frozen HX3.out 6
    have f7 := blk_frozen HX3.out 7
    by_cases c0 : Int.tmod a1 7 = 0
    · have b0 : (Int.tmod a1 7 == 0) = true := beq_iff_eq.mpr c0
      clear c0
      go_wp2
      go_meet
      case rel => exact ⟨{ x with f1 := (wrap64 (wrap64 a2 + 1)) % 4294967296 }, ⟨⟨⟨HY.out.ok.k0, ⟨Int.emod_nonneg _ (by decide), Int.emod_lt_of_pos _ (by decide)⟩, HY.out.ok.k2, HY.out.ok.k3, HY.out.ok.k7⟩, HY.out.pl, HY.out.len⟩⟩, ⟨rfl⟩, ⟨by (with_reducible repeat (first | refine blk_drewN ?_ _ | refine blk_drew ?_)); refine blk_put (cs := rqC x A x.f8.f6.length c) ?_ 1 _ rfl; (with_reducible repeat (first | refine blk_drewN ?_ _ | refine blk_drew ?_)); exact HX3.out⟩, ⟨by repeat (first | (with_reducible first | exact HB3.out | apply pw_below_drewN | apply below_drew1 | refine below_set ?_ HS2.out) | exact HB3.out)⟩⟩
    have b0 : (Int.tmod a1 7 == 0) = false := beq_eq_false_iff_ne.mpr c0
    clear c0
    by_cases c1 : Int.tmod a1 7 = 1
    · have b1 : (Int.tmod a1 7 == 1) = true := beq_iff_eq.mpr c1
      clear c1
      go_wp2
      go_meet
      case rel => exact ⟨{ x with f2 := { data := #[107, 101, 121] } }, ⟨⟨⟨HY.out.ok.k0, HY.out.ok.k1, (by decide : (3 : Nat) ≤ 1000000), HY.out.ok.k3, HY.out.ok.k7⟩, HY.out.pl, HY.out.len⟩⟩, ⟨rfl⟩, ⟨by (with_reducible repeat (first | refine blk_drewN ?_ _ | refine blk_drew ?_)); refine blk_put (cs := rqC x A x.f8.f6.length c) ?_ 2 _ rfl; (with_reducible repeat (first | refine blk_drewN ?_ _ | refine blk_drew ?_)); exact HX3.out⟩, ⟨by repeat (first | (with_reducible first | exact HB3.out | apply pw_below_drewN | apply below_drew1 | refine below_set ?_ HS2.out) | exact HB3.out)⟩⟩
    have b1 : (Int.tmod a1 7 == 1) = false := beq_eq_false_iff_ne.mpr c1
    clear c1
    by_cases c2 : Int.tmod a1 7 = 2
    · have b2 : (Int.tmod a1 7 == 2) = true := beq_iff_eq.mpr c2
      clear c2
      go_wp2
      go_meet
      case rel => exact ⟨{ x with f3 := (wrap64 (wrap64 a2 + 1)) % 4294967296 }, ⟨⟨⟨HY.out.ok.k0, HY.out.ok.k1, HY.out.ok.k2, ⟨Int.emod_nonneg _ (by decide), Int.emod_lt_of_pos _ (by decide)⟩, HY.out.ok.k7⟩, HY.out.pl, HY.out.len⟩⟩, ⟨rfl⟩, ⟨by (with_reducible repeat (first | refine blk_drewN ?_ _ | refine blk_drew ?_)); refine blk_put (cs := rqC x A x.f8.f6.length c) ?_ 3 _ rfl; (with_reducible repeat (first | refine blk_drewN ?_ _ | refine blk_drew ?_)); exact HX3.out⟩, ⟨by repeat (first | (with_reducible first | exact HB3.out | apply pw_below_drewN | apply below_drew1 | refine below_set ?_ HS2.out) | exact HB3.out)⟩⟩
    have b2 : (Int.tmod a1 7 == 2) = false := beq_eq_false_iff_ne.mpr c2
    clear c2
    by_cases c3 : Int.tmod a1 7 = 3
    · have b3 : (Int.tmod a1 7 == 3) = true := beq_iff_eq.mpr c3
      clear c3
      go_wp2
      go_meet
      case rel => exact ⟨{ x with f4 := (wrap64 (wrap64 a2 + 1)) }, ⟨⟨⟨HY.out.ok.k0, HY.out.ok.k1, HY.out.ok.k2, HY.out.ok.k3, HY.out.ok.k7⟩, HY.out.pl, HY.out.len⟩⟩, ⟨rfl⟩, ⟨by (with_reducible repeat (first | refine blk_drewN ?_ _ | refine blk_drew ?_)); refine blk_put (cs := rqC x A x.f8.f6.length c) ?_ 4 _ rfl; (with_reducible repeat (first | refine blk_drewN ?_ _ | refine blk_drew ?_)); exact HX3.out⟩, ⟨by repeat (first | (with_reducible first | exact HB3.out | apply pw_below_drewN | apply below_drew1 | refine below_set ?_ HS2.out) | exact HB3.out)⟩⟩
    have b3 : (Int.tmod a1 7 == 3) = false := beq_eq_false_iff_ne.mpr c3
    clear c3
    by_cases c4 : Int.tmod a1 7 = 4
    · have b4 : (Int.tmod a1 7 == 4) = true := beq_iff_eq.mpr c4
      clear c4
      go_wp2
      go_meet
      case rel => exact ⟨{ x with f5 := (wrap64 (wrap64 a2 + 1)) }, ⟨⟨⟨HY.out.ok.k0, HY.out.ok.k1, HY.out.ok.k2, HY.out.ok.k3, HY.out.ok.k7⟩, HY.out.pl, HY.out.len⟩⟩, ⟨rfl⟩, ⟨by (with_reducible repeat (first | refine blk_drewN ?_ _ | refine blk_drew ?_)); refine blk_put (cs := rqC x A x.f8.f6.length c) ?_ 5 _ rfl; (with_reducible repeat (first | refine blk_drewN ?_ _ | refine blk_drew ?_)); exact HX3.out⟩, ⟨by repeat (first | (with_reducible first | exact HB3.out | apply pw_below_drewN | apply below_drew1 | refine below_set ?_ HS2.out) | exact HB3.out)⟩⟩
    have b4 : (Int.tmod a1 7 == 4) = false := beq_eq_false_iff_ne.mpr c4
    clear c4
    by_cases c5 : Int.tmod a1 7 = 5
    · have b5 : (Int.tmod a1 7 == 5) = true := beq_iff_eq.mpr c5
      clear c5
      go_wp2
      go_meet
      case rel => exact ⟨{ x with f6 := (wrap64 (wrap64 a2 + 1)) }, ⟨⟨⟨HY.out.ok.k0, HY.out.ok.k1, HY.out.ok.k2, HY.out.ok.k3, HY.out.ok.k7⟩, HY.out.pl, HY.out.len⟩⟩, ⟨rfl⟩, ⟨by (with_reducible repeat (first | refine blk_drewN ?_ _ | refine blk_drew ?_)); refine blk_put (cs := rqC x A x.f8.f6.length c) ?_ 6 _ rfl; (with_reducible repeat (first | refine blk_drewN ?_ _ | refine blk_drew ?_)); exact HX3.out⟩, ⟨by repeat (first | (with_reducible first | exact HB3.out | apply pw_below_drewN | apply below_drew1 | refine below_set ?_ HS2.out) | exact HB3.out)⟩⟩
    have b5 : (Int.tmod a1 7 == 5) = false := beq_eq_false_iff_ne.mpr c5
    clear c5
    by_cases c6 : Int.tmod a1 7 = 6
    · have b6 : (Int.tmod a1 7 == 6) = true := beq_iff_eq.mpr c6
      clear c6
      go_wp2
      go_meet
      case rel => exact ⟨{ x with f7 := { data := #[116, 101, 120, 116] } }, ⟨⟨⟨HY.out.ok.k0, HY.out.ok.k1, HY.out.ok.k2, HY.out.ok.k3, (by decide : (4 : Nat) ≤ 1000000)⟩, HY.out.pl, HY.out.len⟩⟩, ⟨rfl⟩, ⟨by (with_reducible repeat (first | refine blk_drewN ?_ _ | refine blk_drew ?_)); refine blk_put (cs := rqC x A x.f8.f6.length c) ?_ 7 _ rfl; (with_reducible repeat (first | refine blk_drewN ?_ _ | refine blk_drew ?_)); exact HX3.out⟩, ⟨by repeat (first | (with_reducible first | exact HB3.out | apply pw_below_drewN | apply below_drew1 | refine below_set ?_ HS2.out) | exact HB3.out)⟩⟩
    have b6 : (Int.tmod a1 7 == 6) = false := beq_eq_false_iff_ne.mpr c6
    clear c6
    go_wp2
    go_meet
    case rel => exact ⟨x, ⟨HY.out⟩, ⟨rfl⟩, ⟨by (with_reducible repeat (first | refine blk_drewN ?_ _ | refine blk_drew ?_)); exact HX3.out⟩, ⟨by repeat (first | (with_reducible first | exact HB3.out | apply pw_below_drewN | apply below_drew1) | exact HB3.out)⟩⟩
  case rest =>
    obtain ⟨y, HYO, H8, HX4, HB4⟩ := hcut
    have HC4 := Aside0.mk (show Kd.C k39 wc A y.f8.f6.length y.f8.f6 by rw [H8.out]; exact Kd.C_below HC.out HB4.out)
    have hcy := Aside0.mk (show y.f8.f6.length ≤ c by rw [H8.out]; exact hc)
    obtain ⟨y0, y1, y2, y3, y4, y5, y6, y7, y8, y9, y10, y11, y12, y13, y14⟩ := rq_cells HX4.out
    by_cases hk : (mput y).2 = 0
    · have HM4 := Aside0.mk (mget_mput HYO.out.ok HYO.out.pl hk)
      clear hk
      go_wp2_with fail
      refine (PutRequest_go y A c _ HC4.out hcy.out HYO.out.ok).mono ?_
      rintro e w5 ⟨v5, rfl, hr5, hb⟩
      rw [HM4.out.1] at hr5 ⊢
      obtain ⟨A5, c5, rfl⟩ := Kd.R_slice hr5
      have HB5 := Aside0.mk (below_step HB4.out hb)
      have HX5 := Aside0.mk ((hb.block _ (Array.getElem?_eq_some_iff.1 HX4.out).1).trans HX4.out)
      have KG : Aside0 (Calls Try.prog 12 #[.slice A5 (putB y).length c5] w5 fun e w' => GetPost w5 y 0 e w') := ⟨by
        have h := GetRequest_go A5 c5 (putB y) w5 (Kd.R_reads' hr5).2.2 (Kd.R_reads' hr5).2.1 (putB_bytes y) (Nat.le_trans (putB_len HYO.out.ok) (by decide))
        rw [HM4.out.2] at h
        exact h⟩
      unfold GetPost at KG
      obtain ⟨LQ, hLQ⟩ : ∃ k, (putB y).length = k := ⟨_, rfl⟩
      rw [hLQ] at KG ⊢
      dsimp only
      clear hb hr5 hLQ y0 y1 y2 y3 y4 y5 y6 y7 y8 y9 y10 y11 y12 y13 y14 HX4
      go_wp2_with fail
      refine KG.out.mono ?_
      rintro e w6 ⟨A6, cp6, rfl, hr6, hb⟩
      have HB6 := Aside0.mk (below_step HB5.out hb)
      have HX6 := Aside0.mk ((hb.block _ (Array.getElem?_eq_some_iff.1 HX5.out).1).trans HX5.out)
      have HR6 := Aside0.mk (Kd.R_reads' hr6).2
      clear hb hr6 KG HX5 HB5
      have HX7 := Aside0.mk (heap_alloc_lt w6 (.cells (rqC y A6 y.f8.f6.length cp6) 27) (Array.getElem?_eq_some_iff.1 HX6.out).1 HX6.out)
      have HZ7 := Aside0.mk (heap_new w6 (.cells (rqC y A6 y.f8.f6.length cp6) 27))
      have HB7 := Aside0.mk (below_alloc HB6.out (.cells (rqC y A6 y.f8.f6.length cp6) 27))
      have KS := Aside0.mk (same_true y A6 A cp6 c (w6.alloc (.cells (rqC y A6 y.f8.f6.length cp6) 27)) (Kd.C_alloc HR6.out.2 _) HR6.out.1 (by have h := Kd.C_below HC.out HB7.out; rw [← H8.out] at h; exact h) hcy.out HYO.out.len)
      obtain ⟨y0, y1, y2, y3, y4, y5, y6, y7, y8, y9, y10, y11, y12, y13, y14⟩ := rq_cells HX7.out
      obtain ⟨z0, z1, z2, z3, z4, z5, z6, z7, z8, z9, z10, z11, z12, z13, z14⟩ := rq_cells HZ7.out
      go_wp2_with fail
      refine KS.out.mono ?_
      rintro e w8 ⟨rfl, hb⟩
      have HB8 := Aside0.mk (below_step HB7.out hb)
      clear hb KS y0 y1 y2 y3 y4 y5 y6 y7 y8 y9 y10 y11 y12 y13 y14 z0 z1 z2 z3 z4 z5 z6 z7 z8 z9 z10 z11 z12 z13 z14 HX7 HZ7 HB7
      go_wp2_with fail
      refine (goes_true _).mono ?_
      rintro e w9 ⟨rfl, hb⟩
      have HB9 := Aside0.mk (below_step HB8.out hb)
      clear hb
      go_wp2_with fail
      go_ret
      exact ⟨rfl, HB9.out⟩
    · have HM4 := Aside0.mk (mput_no hk)
      clear hk
      go_wp2_with fail
      refine (PutRequest_go y A c _ HC4.out hcy.out HYO.out.ok).mono ?_
      rintro e w5 ⟨v5, rfl, hr5, hb⟩
      rw [HM4.out] at hr5 ⊢
      obtain ⟨A5, c5, rfl⟩ := Kd.R_slice hr5
      have HB5 := Aside0.mk (below_step HB4.out hb)
      dsimp only [List.length_nil]
      clear hb hr5 y0 y1 y2 y3 y4 y5 y6 y7 y8 y9 y10 y11 y12 y13 y14 HX4
      go_wp2_with fail
      refine (goes_true _).mono ?_
      rintro e w9 ⟨rfl, hb⟩
      have HB9 := Aside0.mk (below_step HB5.out hb)
      clear hb
      go_wp2_with fail
      go_ret
      exact ⟨rfl, HB9.out⟩
set_option maxRecDepth 100000 in
theorem MsgElse.walk {H : Type} {enc : TypeId × Value → H} (a1 a2 : Int) {W : World} {v : Value} {d0 : DataW H} {p0 : List MemPlace} {base : Nat} (hv : Value.okWide Try.prog W .any base 27 v)
    (h0 : DataW.Trod enc Try.prog W 0 (fun _ => true) true 27 v d0 p0) : Calls Try.prog 3 #[v, .int .u8 a1, .int .u8 a2] W fun e w' => e = .returned (.bool true) ∧ Below W.heap.size W w' := by
  obtain ⟨x, A, c, rfl, r0, r1, r3, r4, rp, rq, hc, ht, hC⟩ := request_come hv h0
  by_cases g1 : (x.f2.size : Int) > 100
  · exact else_great x A c a1 a2 W hC hc (by unfold quitrentlaw25_great.f; rw [if_pos g1])
  by_cases g2 : (x.f7.size : Int) > 200
  · exact else_great x A c a1 a2 W hC hc (by unfold quitrentlaw25_great.f; rw [if_neg g1, if_pos g2])
  by_cases g3 : (x.f8.f6.length : Int) > 10
  · exact else_great x A c a1 a2 W hC hc (by unfold quitrentlaw25_great.f; rw [if_neg g1, if_neg g2, decide_eq_true g3])
  have hg : quitrentlaw25_great.f x.f0 x.f1 x.f2 x.f3 x.f4 x.f5 x.f6 x.f7 x.f8.f0 x.f8.f1 x.f8.f2 x.f8.f3 x.f8.f4 x.f8.f5 x.f8.f6 = some false := by
    unfold quitrentlaw25_great.f; rw [if_neg g1, if_neg g2, decide_eq_false g3]
  have hy : YOk x := ⟨⟨r0, r1, by omega, r3, by omega⟩, by unfold PlR; omega, by omega⟩
  by_cases hk : (mput x).2 = 0
  · exact else_yes x A c a1 a2 W hC hc hy hk hg
  · exact else_no x A c a1 a2 W hC hc hy hk hg
end Go.Proofs.Ytanjkhdagegapaa.Ext
