/- The contract of quitrentref10's Part, proved by walking its code. -/
import Derived.Test.YtimdoddaaelfjaaPartMath
namespace Go.Proofs.Ytimdoddaaelfjaa.Ext
open Go.RowKit Go.Proofs.YtimdoddaaelfjaaW.PrintWords Go.Proofs.YtimdoddaaelfjaaW.PrintLast Go.Proofs.YtimdoddaaelfjaaW.PrintMore Go.Proofs.YtimdoddaaelfjaaW.Hand
set_option linter.unusedVariables false
def quitrentref10_Part.f (a b d : Int) : Option (Int × Int × Int) := money_Part.f a b d
set_option maxRecDepth 100000 in
set_option maxHeartbeats 3200000 in
theorem quitrentref10_Part.calls (a b d r1 r2 r3 : Int) (w : World) (h : quitrentref10_Part.f a b d = some (r1, r2, r3)) :
    Calls Try.prog 20 #[.int .i64 a, .int .i64 b, .int .i64 d] w fun e w' => e = .returned (.tuple #[.int .i64 r1, .int .i64 r2, .int .i64 r3]) ∧ Below w.heap.size w w' := by
  unfold quitrentref10_Part.f money_Part.f at h
  split at h
  case isFalse => cases h
  case isTrue hab =>
  obtain ⟨ha, hb, hd⟩ := hab
  have hs := Option.some.inj h
  clear h
  unfold part at hs
  by_cases ca : a < 0
  · rw [if_pos (.inl ca)] at hs
    simp only [Prod.mk.injEq] at hs
    obtain ⟨rfl, rfl, rfl⟩ := hs
    clear ha hb hd
    go_enter Try.func20, Try.ntmps20
    go_wp2
    go_ret3
    exact ⟨rfl, Below.refl _ _⟩
  by_cases cb : b < 0
  · rw [if_pos (.inr (.inl cb))] at hs
    simp only [Prod.mk.injEq] at hs
    obtain ⟨rfl, rfl, rfl⟩ := hs
    clear ha hb hd
    go_enter Try.func20, Try.ntmps20
    go_wp2
    go_ret3
    exact ⟨rfl, Below.refl _ _⟩
  by_cases cd : d < 1
  · rw [if_pos (.inr (.inr cd))] at hs
    simp only [Prod.mk.injEq] at hs
    obtain ⟨rfl, rfl, rfl⟩ := hs
    clear ha hb hd
    go_enter Try.func20, Try.ntmps20
    go_wp2
    go_ret3
    exact ⟨rfl, Below.refl _ _⟩
  rw [if_neg (by omega)] at hs
  have HS := Aside0.mk hs
  clear hs
  have k1 := Aside0.mk (fun w => refOf a ha w)
  have k2 := Aside0.mk (fun w => refOf b hb w)
  have k3 := Aside0.mk (fun w => refMul a b w)
  have k4 := Aside0.mk (fun w => refOf d hd w)
  obtain ⟨N, hN⟩ : ∃ N, a * b = N := ⟨_, rfl⟩
  have hN0 : 0 ≤ N := by rw [← hN]; exact Int.mul_nonneg (by omega) (by omega)
  have hN1 : N < 85070591730234615865843651857942052864 := by
    unfold I64 at ha hb
    have := Int.mul_le_mul (show a ≤ 9223372036854775807 by omega) (show b ≤ 9223372036854775807 by omega) (by omega) (by omega)
    omega
  have h0 := Aside0.mk hN0
  have h1 := Aside0.mk hN1
  have ha := Aside0.mk ha
  have hb := Aside0.mk hb
  have hd' := Aside0.mk hd
  have hd := Aside0.mk hd
  clear hN0 hN1
  rw [hN] at k3 HS
  obtain ⟨n0, n1, n2, n3, hnv, hnc⟩ := big_named N
  obtain ⟨y0, y1, y2, y3, hyv, hyc⟩ := big_named d
  rw [hnv] at k3
  rw [hyv] at k4
  have HYV := Aside0.mk hyv
  obtain ⟨xa, hxa⟩ : ∃ x, bigV a = x := ⟨_, rfl⟩
  obtain ⟨xb, hxb⟩ : ∃ x, bigV b = x := ⟨_, rfl⟩
  rw [hxa] at k1 k3
  rw [hxb] at k2 k3
  have hnc := Aside0.mk hnc
  have hyc := Aside0.mk hyc
  clear hxa hxb hnv hyv hN
  go_enter Try.func20, Try.ntmps20
  go_wp2_with fail
  refine (k1.out _).mono ?_
  rintro e w1 ⟨rfl, hbl⟩
  have B1 := Aside0.mk hbl
  clear hbl
  go_wp2_with fail
  refine (k2.out _).mono ?_
  rintro e w2 ⟨rfl, hbl⟩
  have B2 := Aside0.mk (below_step B1.out hbl)
  clear hbl B1
  go_wp2_with fail
  refine (k3.out _).mono ?_
  rintro e w3 ⟨rfl, hbl⟩
  have B3 := Aside0.mk (below_step B2.out hbl)
  clear hbl B2 k1 k2 k3
  obtain ⟨z0, z1, z2, z3, hzv, hzc⟩ := big_named 0
  obtain ⟨G, hG⟩ : ∃ G, w3.heap.size = G := ⟨_, rfl⟩
  have hg0 : w.heap.size ≤ G := by rw [← hG]; exact B3.out.size
  go_wp2_with fail
  refine (k4.out _).mono ?_
  rintro e w4 ⟨rfl, hbl⟩
  have B4 := Aside0.mk (below_step (below_alloc (below_alloc (below_alloc B3.out _) _) _) hbl)
  have QN := Aside0.mk (Blk.alloc (o' := bigC d) (Blk.below (g := G) (o := bigC N) (by rw [hnc.out]; exact ((Blk.new (by rw [hG])).alloc).alloc) hbl))
  have QQ := Aside0.mk (Blk.alloc (o' := bigC d) (Blk.below (g := G + 1) (o := bigC 0) (Blk.alloc (Blk.new (by rw [size_alloc, hG]))) hbl))
  have QR := Aside0.mk (Blk.alloc (o' := bigC d) (Blk.below (g := G + 1 + 1) (o := bigC 0) (Blk.new (by rw [size_alloc, size_alloc, hG])) hbl))
  have QB : Aside0 (Blk (w4.alloc (bigC d)) w4.heap.size (bigC d)) := Aside0.mk (Blk.new rfl)
  have BB := Aside0.mk (below_alloc B4.out (bigC d))
  obtain ⟨H, hH⟩ : ∃ H, w4.heap.size = H := ⟨_, rfl⟩
  have hgh : G + 3 ≤ H := by
    have := hbl.size
    simp only [size_alloc, hG] at this
    omega
  rw [hyc.out] at QN QQ QR BB
  rw [show (w4.alloc (bigC d)) = w4.alloc (.cells #[.int .u64 y0, .int .u64 y1, .int .u64 y2, .int .u64 y3] 43) by rw [hyc.out]] at QB
  rw [hH] at QB
  clear hbl B4 B3 k4
  go_wp2_with fail
  go_loopw [13] (fun i wr => ∃ j : Nat, j ≤ 128 ∧ i = .int .i64 (127 - (j : Int)) ∧ Aside0 (Blk wr G (bigC N)) ∧ Aside0 (Blk wr (G + 1) (bigC (N / 2 ^ (128 - j) / d))) ∧ Aside0 (Blk wr (G + 1 + 1) (bigC (N / 2 ^ (128 - j) % d))) ∧ Aside0 (Blk wr H (bigC d)) ∧ Aside0 (Below w.heap.size w wr)) (fun i _ => (intOf i + 1).toNat)
  case atStart =>
    have e0 : N / 2 ^ (128 - 0) = 0 := by have := h0.out; have := h1.out; exact Int.ediv_eq_zero_of_lt (by omega) (by omega)
    refine ⟨0, by omega, by go_num, QN, ?_, ?_, QB, BB⟩
    · rw [e0, Int.zero_ediv]; exact QQ
    · rw [e0, Int.zero_emod]; exact QR
  case round =>
    obtain ⟨j, hj, rfl, HN, HQ, HR, HB, HW⟩ := hrel
    by_cases hlt : j < 128
    · obtain ⟨m, e1, e2, hml⟩ : ∃ m : Nat, (127 : Int) - (j : Int) = (m : Int) ∧ 128 - j = m + 1 ∧ m < 128 := ⟨127 - j, by omega, by omega, by omega⟩
      have e3 : 128 - (j + 1) = m := by omega
      have E1 := Aside0.mk e1
      have E3 := Aside0.mk e3
      rw [e1]
      rw [e2] at HQ HR
      clear e1 e2 e3
      obtain ⟨bit, hbit, hb0, hb1, hr0, hr1, hyes, hno⟩ := part_step N d m h0.out cd
      obtain ⟨nd, hnd, hndb, hnd0, hnd1⟩ := part_digit N m hml n0 n1 n2 n3 hnc.out
      rw [← hbit] at hndb
      generalize N / 2 ^ (m + 1) / d = q at *
      generalize N / 2 ^ (m + 1) % d = r at *
      have k1 := Aside0.mk (fun w => refAdd r r w)
      have k2 := Aside0.mk (fun w => refAdd q q w)
      obtain ⟨a0, a1, a2, a3, hv, hc⟩ := big_named r
      rw [hc] at HR
      rw [hv] at k1
      clear hv hc
      obtain ⟨b0, b1, b2, b3, hv, hc⟩ := big_named q
      rw [hc] at HQ
      rw [hv] at k2
      clear hv hc
      obtain ⟨s0, s1, s2, s3, hv, hc⟩ := big_named (r + r)
      rw [hv] at k1
      obtain ⟨hc1, hv1, hw1⟩ := big_bit r bit hb0 hb1 s0 s1 s2 s3 hc
      have HC1 := Aside0.mk hc1
      have HV1 := Aside0.mk hv1
      clear hv hc hc1 hv1
      obtain ⟨t0, t1, t2, t3, hv, hc⟩ := big_named (q + q)
      rw [hv] at k2
      have HC2 := Aside0.mk hc
      have HV2 := Aside0.mk hv
      clear hv hc
      rw [hnc.out] at HN
      rw [hyc.out] at HB
      have BR := HR.out
      have BQ := HQ.out
      have BR0 := BR.cell 0
      have BR1 := BR.cell 1
      have BR2 := BR.cell 2
      have BR3 := BR.cell 3
      simp at BR0 BR1 BR2 BR3
      have HDB := Aside0.mk hndb
      have HY := Aside0.mk hyes
      have HNo := Aside0.mk hno
      clear BR BQ hndb hyes hno hbit
      have hdig : m / 32 < 4 := by omega
      clear ha hb hd QN QQ QR QB BB hzv hzc
      have HND := Aside0.mk hnd
      clear hnd
      go_wp2_with fail
      refine (k1.out _).mono ?_
      rintro e v1 ⟨rfl, hbl⟩
      have QN1 := Aside0.mk (HN.out.below hbl)
      have QQ1 := Aside0.mk (HQ.out.below hbl)
      have QR1 := Aside0.mk (HR.out.below hbl)
      have QB1 := Aside0.mk (HB.out.below hbl)
      have BB1 := Aside0.mk (below_step HW.out hbl)
      clear hbl HN HQ HR HB HW BR0 BR1 BR2 BR3
      have z0 := QR1.out.free 0
      have z1 := QR1.out.free 1
      have z2 := QR1.out.free 2
      have z3 := QR1.out.free 3
      have c0 := QR1.out.cell 0
      have c1 := QR1.out.cell 1
      have c2 := QR1.out.cell 2
      have c3 := QR1.out.cell 3
      have p0 := QQ1.out.cell 0
      have p1 := QQ1.out.cell 1
      have p2 := QQ1.out.cell 2
      have p3 := QQ1.out.cell 3
      simp at c0 c1 c2 c3 p0 p1 p2 p3
      go_wp2_with fail
      refine (k2.out _).mono ?_
      rintro e v2 ⟨rfl, hbl⟩
      have QN2 := Aside0.mk ((Blk.put4_ne QN1.out (g' := G + 1 + 1) (by omega) (.int .u64 s0) (.int .u64 s1) (.int .u64 s2) (.int .u64 s3)).below hbl)
      have QQ2 := Aside0.mk ((Blk.put4_ne QQ1.out (g' := G + 1 + 1) (by omega) (.int .u64 s0) (.int .u64 s1) (.int .u64 s2) (.int .u64 s3)).below hbl)
      have QB2 := Aside0.mk ((Blk.put4_ne QB1.out (g' := G + 1 + 1) (by omega) (.int .u64 s0) (.int .u64 s1) (.int .u64 s2) (.int .u64 s3)).below hbl)
      have QR2 := Aside0.mk ((Blk.put4 QR1.out (.int .u64 s0) (.int .u64 s1) (.int .u64 s2) (.int .u64 s3)).below hbl)
      have BB2 := Aside0.mk (below_step (below_put4 (g := G + 1 + 1) BB1.out (by omega) (.int .u64 s0) (.int .u64 s1) (.int .u64 s2) (.int .u64 s3)) hbl)
      clear hbl QN1 QQ1 QR1 QB1 BB1 z0 z1 z2 z3 c0 c1 c2 c3 p0 p1 p2 p3
      have z0 := QQ2.out.free 0
      have z1 := QQ2.out.free 1
      have z2 := QQ2.out.free 2
      have z3 := QQ2.out.free 3
      have p0 := QQ2.out.cell 0
      have p1 := QQ2.out.cell 1
      have p2 := QQ2.out.cell 2
      have p3 := QQ2.out.cell 3
      simp at p0 p1 p2 p3
      go_wp2_with fail
      have QN3 := Aside0.mk (Blk.put4_ne QN2.out (g' := G + 1) (by omega) (.int .u64 t0) (.int .u64 t1) (.int .u64 t2) (.int .u64 t3))
      have QB3 := Aside0.mk (Blk.put4_ne QB2.out (g' := G + 1) (by omega) (.int .u64 t0) (.int .u64 t1) (.int .u64 t2) (.int .u64 t3))
      have QR3 := Aside0.mk (Blk.put4_ne QR2.out (g' := G + 1) (by omega) (.int .u64 t0) (.int .u64 t1) (.int .u64 t2) (.int .u64 t3))
      have QQ3 := Aside0.mk (Blk.put4 QQ2.out (.int .u64 t0) (.int .u64 t1) (.int .u64 t2) (.int .u64 t3))
      have BB3 := Aside0.mk (below_put4 (g := G + 1) BB2.out (by omega) (.int .u64 t0) (.int .u64 t1) (.int .u64 t2) (.int .u64 t3))
      clear z0 z1 z2 z3 p0 p1 p2 p3
      generalize ((((v2.setCell ⟨G + 1, 0, none⟩ (.int .u64 t0)).setCell ⟨G + 1, 1, none⟩ (.int .u64 t1)).setCell ⟨G + 1, 2, none⟩ (.int .u64 t2)).setCell ⟨G + 1, 3, none⟩ (.int .u64 t3)) = v3 at QN3 QB3 QR3 QQ3 BB3 ⊢
      clear QN2 QQ2 QB2 QR2 BB2 k1 k2
      have nn := QN3.out.cell (m / 32)
      rw [HND.out] at nn
      have c0 := QR3.out.cell 0
      have z0 := QR3.out.free 0
      simp at c0
      have hq : (nd / 2 ^ (m % 32)).tmod 2 = bit := by
        have := HDB.out
        rw [Int.natCast_pow] at this
        rw [Int.tmod_eq_emod_of_nonneg (Int.ediv_nonneg hnd0 (Int.le_of_lt (Int.pow_pos (by decide))))]
        exact this
      go_region
      have QN4 := Aside0.mk (Blk.drew (Blk.put_ne (u := .int .u64 (s0 + bit)) (j := 0) QN3.out (g' := G + 1 + 1) (by omega)))
      have QQ4 := Aside0.mk (Blk.drew (Blk.put_ne (u := .int .u64 (s0 + bit)) (j := 0) QQ3.out (g' := G + 1 + 1) (by omega)))
      have QB4 := Aside0.mk (Blk.drew (Blk.put_ne (u := .int .u64 (s0 + bit)) (j := 0) QB3.out (g' := G + 1 + 1) (by omega)))
      have QR4 : Aside0 (Blk (v3.setCell ⟨G + 1 + 1, 0, none⟩ (.int .u64 (s0 + bit))).drew (G + 1 + 1) (.cells #[.int .u64 (s0 + bit), .int .u64 s1, .int .u64 s2, .int .u64 s3] 43)) := ⟨(QR3.out.put 0 (.int .u64 (s0 + bit)) rfl).drew⟩
      have BB4 : Aside0 (Below w.heap.size w (v3.setCell ⟨G + 1 + 1, 0, none⟩ (.int .u64 (s0 + bit))).drew) := ⟨below_drew (below_set BB3.out (by omega))⟩
      generalize (v3.setCell ⟨G + 1 + 1, 0, none⟩ (.int .u64 (s0 + bit))).drew = v4 at QN4 QQ4 QB4 QR4 BB4 ⊢
      clear nn c0 z0 hq hw1 hnd0 hnd1 hdig HND HDB QN3 QQ3 QB3 QR3 BB3
      obtain ⟨x0, hx0⟩ : ∃ x, s0 + bit = x := ⟨_, rfl⟩
      rw [hx0] at QR4 HC1 HV1
      clear hx0
      have k1 := Aside0.mk (fun w => refLess (r + r + bit) d (by omega) (by have := hd'.out; unfold I64 at this; omega) (by omega) (by have := hd'.out; unfold I64 at this; omega) w)
      rw [HV1.out, HYV.out] at k1
      obtain ⟨D, hD⟩ : ∃ D, r + r + bit = D := ⟨_, rfl⟩
      rw [hD] at HY HNo HC1 k1 HV1
      have c0 := QR4.out.cell 0
      have c1 := QR4.out.cell 1
      have c2 := QR4.out.cell 2
      have c3 := QR4.out.cell 3
      simp at c0 c1 c2 c3
      have yy0 := QB4.out.cell 0
      have yy1 := QB4.out.cell 1
      have yy2 := QB4.out.cell 2
      have yy3 := QB4.out.cell 3
      simp at yy0 yy1 yy2 yy3
      go_wp2_with fail
      refine (k1.out _).mono ?_
      rintro e v5 ⟨rfl, hbl⟩
      have QN5 := Aside0.mk (QN4.out.below hbl)
      have QQ5 := Aside0.mk (QQ4.out.below hbl)
      have QR5 := Aside0.mk (QR4.out.below hbl)
      have QB5 := Aside0.mk (QB4.out.below hbl)
      have BB5 := Aside0.mk (below_step BB4.out hbl)
      clear hbl QN4 QQ4 QR4 QB4 BB4 c0 c1 c2 c3 yy0 yy1 yy2 yy3 k1
      by_cases hc : D < d
      · have RN : Aside0 (Blk v5 G (bigC N)) := ⟨by rw [hnc.out]; exact QN5.out⟩
        have RQ : Aside0 (Blk v5 (G + 1) (bigC (N / 2 ^ m / d))) := ⟨by rw [(HY.out hc).1, HC2.out]; exact QQ5.out⟩
        have RR : Aside0 (Blk v5 (G + 1 + 1) (bigC (N / 2 ^ m % d))) := ⟨by rw [(HY.out hc).2, HC1.out]; exact QR5.out⟩
        have RB : Aside0 (Blk v5 H (bigC d)) := ⟨by rw [hyc.out]; exact QB5.out⟩
        clear QN5 QQ5 QR5 QB5
        rw [decide_eq_true hc]
        clear hr0 hr1 hb0 hb1 HY HNo
        go_wp2_with fail
        go_roundw
        case rel => exact ⟨j + 1, by omega, by have := E1.out; go_num, RN, by rw [E3.out]; exact RQ, by rw [E3.out]; exact RR, RB, BB5⟩
        case measure => have := E1.out; simp [intOf]
      · have k2 := Aside0.mk (fun w => refNeg d w)
        have k3 := Aside0.mk (fun w => refAdd D (-d) w)
        have k4 := Aside0.mk (fun w => refAdd (q + q) 1 w)
        obtain ⟨X, hX⟩ : ∃ X, bigV (-d) = X := ⟨_, rfl⟩
        obtain ⟨e0, e1, e2, e3, hv, hv2⟩ := big_named (D + -d)
        obtain ⟨f0, f1, f2, f3, hv3, hv4⟩ := big_named (q + q + 1)
        rw [HYV.out, hX] at k2
        rw [hX] at k3
        rw [HV1.out, hv] at k3
        rw [HV2.out, hv3] at k4
        have HE := Aside0.mk hv2
        have HF := Aside0.mk hv4
        have HY2 := Aside0.mk (HNo.out (by omega))
        rw [decide_eq_false hc]
        have HR5 := Aside0.mk (QR5.out)
        clear hv hv2 hv3 hv4 hX hr0 hr1 hb0 hb1 HY HNo hc HV1 HV2 HC1 HC2
        have c0 := QR5.out.cell 0
        have c1 := QR5.out.cell 1
        have c2 := QR5.out.cell 2
        have c3 := QR5.out.cell 3
        have y0' := QB5.out.cell 0
        have y1' := QB5.out.cell 1
        have y2' := QB5.out.cell 2
        have y3' := QB5.out.cell 3
        simp at c0 c1 c2 c3 y0' y1' y2' y3'
        go_wp2_with fail
        go_region_with (first
          | (go_at_call 32; refine (k2.out _).mono ?_; rintro e v6 ⟨rfl, hbl⟩; (have QN6 := Aside0.mk (QN5.out.drew.below hbl)); (have QQ6 := Aside0.mk (QQ5.out.drew.below hbl)); (have QR6 := Aside0.mk (QR5.out.drew.below hbl)); (have QB6 := Aside0.mk (QB5.out.drew.below hbl)); (have BB6 := Aside0.mk (below_step (below_drew BB5.out) hbl)); clear hbl; (have g0 := QR6.out.cell 0); (have g1 := QR6.out.cell 1); (have g2 := QR6.out.cell 2); (have g3 := QR6.out.cell 3); simp at g0 g1 g2 g3)
          | (go_at_call 21; refine (k3.out _).mono ?_; rintro e v7 ⟨rfl, hbl⟩; (have QN7 := Aside0.mk (QN6.out.below hbl)); (have QQ7 := Aside0.mk (QQ6.out.below hbl)); (have QR7 := Aside0.mk (QR6.out.below hbl)); (have QB7 := Aside0.mk (QB6.out.below hbl)); (have BB7 := Aside0.mk (below_step BB6.out hbl)); clear hbl; (have g0 := QR7.out.cell 0); (have g1 := QR7.out.cell 1); (have g2 := QR7.out.cell 2); (have g3 := QR7.out.cell 3); (have z0 := QR7.out.free 0); (have z1 := QR7.out.free 1); (have z2 := QR7.out.free 2); (have z3 := QR7.out.free 3); simp at g0 g1 g2 g3))
        all_goals
          have RN8 := Aside0.mk (Blk.put4_ne QN7.out (g' := G + 1 + 1) (by omega) (.int .u64 e0) (.int .u64 e1) (.int .u64 e2) (.int .u64 e3))
          have RQ8 := Aside0.mk (Blk.put4_ne QQ7.out (g' := G + 1 + 1) (by omega) (.int .u64 e0) (.int .u64 e1) (.int .u64 e2) (.int .u64 e3))
          have RB8 := Aside0.mk (Blk.put4_ne QB7.out (g' := G + 1 + 1) (by omega) (.int .u64 e0) (.int .u64 e1) (.int .u64 e2) (.int .u64 e3))
          have RR8 := Aside0.mk (Blk.put4 QR7.out (.int .u64 e0) (.int .u64 e1) (.int .u64 e2) (.int .u64 e3))
          have BB8 := Aside0.mk (below_put4 (g := G + 1 + 1) BB7.out (by omega) (.int .u64 e0) (.int .u64 e1) (.int .u64 e2) (.int .u64 e3))
          generalize ((((v7.setCell ⟨G + 1 + 1, 0, none⟩ (.int .u64 e0)).setCell ⟨G + 1 + 1, 1, none⟩ (.int .u64 e1)).setCell ⟨G + 1 + 1, 2, none⟩ (.int .u64 e2)).setCell ⟨G + 1 + 1, 3, none⟩ (.int .u64 e3)) = v8 at RN8 RQ8 RB8 RR8 BB8 ⊢
          have g0 := RQ8.out.cell 0
          have g1 := RQ8.out.cell 1
          have g2 := RQ8.out.cell 2
          have g3 := RQ8.out.cell 3
          simp at g0 g1 g2 g3
          clear c0 c1 c2 c3 y0' y1' y2' y3' k2 k3
          go_wp2_with fail
          refine (k4.out _).mono ?_
          rintro e v9 ⟨rfl, hbl⟩
          have RN9 := Aside0.mk (RN8.out.below hbl)
          have RQ9 := Aside0.mk (RQ8.out.below hbl)
          have RB9 := Aside0.mk (RB8.out.below hbl)
          have RR9 := Aside0.mk (RR8.out.below hbl)
          have BB9 := Aside0.mk (below_step BB8.out hbl)
          clear hbl g0 g1 g2 g3
          have g0 := RQ9.out.cell 0
          have g1 := RQ9.out.cell 1
          have g2 := RQ9.out.cell 2
          have g3 := RQ9.out.cell 3
          have z0 := RQ9.out.free 0
          have z1 := RQ9.out.free 1
          have z2 := RQ9.out.free 2
          have z3 := RQ9.out.free 3
          simp at g0 g1 g2 g3
          have SN := Aside0.mk (Blk.put4_ne RN9.out (g' := G + 1) (by omega) (.int .u64 f0) (.int .u64 f1) (.int .u64 f2) (.int .u64 f3))
          have SR := Aside0.mk (Blk.put4_ne RR9.out (g' := G + 1) (by omega) (.int .u64 f0) (.int .u64 f1) (.int .u64 f2) (.int .u64 f3))
          have SB := Aside0.mk (Blk.put4_ne RB9.out (g' := G + 1) (by omega) (.int .u64 f0) (.int .u64 f1) (.int .u64 f2) (.int .u64 f3))
          have SQ := Aside0.mk (Blk.put4 RQ9.out (.int .u64 f0) (.int .u64 f1) (.int .u64 f2) (.int .u64 f3))
          have BS := Aside0.mk (below_put4 (g := G + 1) BB9.out (by omega) (.int .u64 f0) (.int .u64 f1) (.int .u64 f2) (.int .u64 f3))
          rw [← HF.out] at SQ
          rw [← HE.out] at SR
          rw [← hnc.out] at SN
          rw [← hyc.out] at SB
          rw [← HY2.out.1] at SQ
          rw [← HY2.out.2] at SR
          go_wp2_with fail
          go_roundw
          case rel => exact ⟨j + 1, by omega, by have := E1.out; go_num, SN, by rw [E3.out]; exact SQ, by rw [E3.out]; exact SR, SB, BS⟩
          case measure => have := E1.out; simp [intOf]
    · obtain rfl : j = 128 := by omega
      rw [Nat.sub_self, Int.pow_zero, Int.ediv_one] at HQ HR
      clear ha hb hd QN QQ QR QB BB hzv hzc HN HB
      have hq0 : 0 ≤ N / d := Int.ediv_nonneg h0.out (by omega)
      have hq1 : N / d ≤ N := Int.ediv_le_self _ h0.out
      have hq2 := h1.out
      have hr0 : 0 ≤ N % d := Int.emod_nonneg _ (by omega)
      have hr1 : N % d < d := Int.emod_lt_of_pos _ (by omega)
      have hdd := hd'.out
      have hs := HS.out
      obtain ⟨q, hq⟩ : ∃ q, N / d = q := ⟨_, rfl⟩
      obtain ⟨r, hr⟩ : ∃ r, N % d = r := ⟨_, rfl⟩
      rw [hq] at HQ hq0 hq1 hs
      rw [hr] at HR hr0 hr1 hs
      clear hq hr HS
      have k1 := Aside0.mk (fun w => refSmall q w)
      have k2 := Aside0.mk (fun w => refSmall r w)
      have er : wrap64 r = r := wrap64_same r (by unfold I64 at hdd ⊢; omega)
      rw [er, Int.sub_self, if_pos (by decide), decide_eq_true (by decide)] at k2
      obtain ⟨a0, a1, a2, a3, hv, hc⟩ := big_named q
      rw [hc] at HQ
      rw [hv] at k1
      clear hv hc
      obtain ⟨b0, b1, b2, b3, hv, hc⟩ := big_named r
      rw [hc] at HR
      rw [hv] at k2
      clear hv hc er hr0 hr1 hdd hnc hyc HYV hd' h0 h1
      have c0 := HQ.out.cell 0
      have c1 := HQ.out.cell 1
      have c2 := HQ.out.cell 2
      have c3 := HQ.out.cell 3
      simp at c0 c1 c2 c3
      by_cases hlt2 : q < 9223372036854775808
      · rw [if_pos hlt2] at hs
        simp only [Prod.mk.injEq] at hs
        obtain ⟨h1, h2, h3⟩ := hs
        have eq : wrap64 q = q := wrap64_same q (by unfold I64; omega)
        rw [eq, Int.sub_self, if_pos (by decide), decide_eq_true (by decide)] at k1
        have hn : ¬ q < 0 := by omega
        clear eq hq1 hq2 hlt2 hq0
        go_wp2_with fail
        refine (k1.out _).mono ?_
        rintro e v1 ⟨rfl, hbl⟩
        have QR1 := Aside0.mk (HR.out.below hbl)
        have BB1 := Aside0.mk (below_step HW.out hbl)
        clear hbl
        have d0 := QR1.out.cell 0
        have d1 := QR1.out.cell 1
        have d2 := QR1.out.cell 2
        have d3 := QR1.out.cell 3
        simp at d0 d1 d2 d3
        go_wp2_with fail
        refine (k2.out _).mono ?_
        rintro e v2 ⟨rfl, hbl⟩
        have BB2 := Aside0.mk (below_step BB1.out hbl)
        clear hbl
        go_wp2_with fail
        go_ret3
        exact ⟨by rw [← h1, ← h2, ← h3]; rfl, BB2.out⟩
      · rw [if_neg hlt2] at hs
        simp only [Prod.mk.injEq] at hs
        obtain ⟨h1, h2, h3⟩ := hs
        have e1 : I64 (wrap64 q) := by unfold I64 wrap64; omega
        have e2 : ¬ (q - wrap64 q) % 340282366920938463463374607431768211456 = 0 := by
          unfold I64 at e1
          generalize wrap64 q = x at *
          omega
        rw [if_neg e2, decide_eq_false e2] at k1
        clear e1 e2 hq1 hq2 hlt2 hq0
        go_wp2_with fail
        refine (k1.out _).mono ?_
        rintro e v1 ⟨rfl, hbl⟩
        have BB1 := Aside0.mk (below_step HW.out hbl)
        clear hbl
        go_wp2_with fail
        go_ret3
        exact ⟨by rw [← h1, ← h2, ← h3]; rfl, BB1.out⟩
end Go.Proofs.Ytimdoddaaelfjaa.Ext
