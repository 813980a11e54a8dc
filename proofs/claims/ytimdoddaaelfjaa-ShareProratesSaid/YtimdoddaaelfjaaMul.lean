/- The contract of quitrentref10.Mul, proved by walking its code. (Printed by wip/money/gen_mul.py.) -/
import Derived.Test.YtimdoddaaelfjaaRef
namespace Go.Proofs.Ytimdoddaaelfjaa.Ext
open Go.RowKit Go.Proofs.YtimdoddaaelfjaaW.PrintWords Go.Proofs.YtimdoddaaelfjaaW.PrintLast Go.Proofs.YtimdoddaaelfjaaW.PrintMore Go.Proofs.YtimdoddaaelfjaaW.Hand
set_option linter.unusedVariables false
set_option maxRecDepth 100000 in
set_option maxHeartbeats 12800000 in
theorem Mul_raw (a0 a1 a2 a3 b0 b1 b2 b3 p00 q00 r00 o00 c00 p01 q01 r01 o01 c01 p02 q02 r02 o02 c02 p03 q03 r03 o03 c03 p10 q10 r10 o10 c10 p11 q11 r11 o11 c11 p12 q12 r12 o12 c12 p20 q20 r20 o20 c20 p21 q21 r21 o21 c21 p30 q30 r30 o30 c30 : Int)
    (hP00 : IntKind.u64.wrap (a0 * b0) = p00)
    (hQ00 : IntKind.u64.wrap p00 = q00)
    (hR00 : IntKind.u64.wrap q00 = r00)
    (hT00 : r00.tmod 4294967296 = o00)
    (hD00 : r00 / 4294967296 = c00)
    (hP01 : IntKind.u64.wrap (a0 * b1) = p01)
    (hQ01 : IntKind.u64.wrap p01 = q01)
    (hR01 : IntKind.u64.wrap (q01 + c00) = r01)
    (hT01 : r01.tmod 4294967296 = o01)
    (hD01 : r01 / 4294967296 = c01)
    (hP02 : IntKind.u64.wrap (a0 * b2) = p02)
    (hQ02 : IntKind.u64.wrap p02 = q02)
    (hR02 : IntKind.u64.wrap (q02 + c01) = r02)
    (hT02 : r02.tmod 4294967296 = o02)
    (hD02 : r02 / 4294967296 = c02)
    (hP03 : IntKind.u64.wrap (a0 * b3) = p03)
    (hQ03 : IntKind.u64.wrap p03 = q03)
    (hR03 : IntKind.u64.wrap (q03 + c02) = r03)
    (hT03 : r03.tmod 4294967296 = o03)
    (hD03 : r03 / 4294967296 = c03)
    (hP10 : IntKind.u64.wrap (a1 * b0) = p10)
    (hQ10 : IntKind.u64.wrap (p10 + o01) = q10)
    (hR10 : IntKind.u64.wrap q10 = r10)
    (hT10 : r10.tmod 4294967296 = o10)
    (hD10 : r10 / 4294967296 = c10)
    (hP11 : IntKind.u64.wrap (a1 * b1) = p11)
    (hQ11 : IntKind.u64.wrap (p11 + o02) = q11)
    (hR11 : IntKind.u64.wrap (q11 + c10) = r11)
    (hT11 : r11.tmod 4294967296 = o11)
    (hD11 : r11 / 4294967296 = c11)
    (hP12 : IntKind.u64.wrap (a1 * b2) = p12)
    (hQ12 : IntKind.u64.wrap (p12 + o03) = q12)
    (hR12 : IntKind.u64.wrap (q12 + c11) = r12)
    (hT12 : r12.tmod 4294967296 = o12)
    (hD12 : r12 / 4294967296 = c12)
    (hP20 : IntKind.u64.wrap (a2 * b0) = p20)
    (hQ20 : IntKind.u64.wrap (p20 + o11) = q20)
    (hR20 : IntKind.u64.wrap q20 = r20)
    (hT20 : r20.tmod 4294967296 = o20)
    (hD20 : r20 / 4294967296 = c20)
    (hP21 : IntKind.u64.wrap (a2 * b1) = p21)
    (hQ21 : IntKind.u64.wrap (p21 + o12) = q21)
    (hR21 : IntKind.u64.wrap (q21 + c20) = r21)
    (hT21 : r21.tmod 4294967296 = o21)
    (hD21 : r21 / 4294967296 = c21)
    (hP30 : IntKind.u64.wrap (a3 * b0) = p30)
    (hQ30 : IntKind.u64.wrap (p30 + o21) = q30)
    (hR30 : IntKind.u64.wrap q30 = r30)
    (hT30 : r30.tmod 4294967296 = o30)
    (hD30 : r30 / 4294967296 = c30) (w : World) :
    Calls Try.prog 22 #[big a0 a1 a2 a3, big b0 b1 b2 b3] w fun e w' => e = .returned (big o00 o10 o20 o30) ∧ Below w.heap.size w w' := by
  unfold big
  go_enter Try.func22, Try.ntmps22
  go_wp2_with fail
  refine wp_loop_rounds 5 ?_
  rw [rounds_succ]
  go_wp2_with fail
  refine wp_loop_rounds 5 ?_
  rw [rounds_succ]
  go_wp2_with fail
  go_quiet (fail)
  go_wp2_with fail
  rw [rounds_succ]
  go_wp2_with fail
  go_quiet (fail)
  go_wp2_with fail
  rw [rounds_succ]
  go_wp2_with fail
  go_quiet (fail)
  go_wp2_with fail
  rw [rounds_succ]
  go_wp2_with fail
  go_quiet (fail)
  go_wp2_with fail
  rw [rounds_succ]
  go_wp2_with fail
  generalize hW0 : World.setCell _ _ _ = W0
  have A0 : Blk W0 (w.heap.size) (.cells #[.int .u64 a0, .int .u64 a1, .int .u64 a2, .int .u64 a3] 43) := by
    rw [← hW0]
    repeat (with_reducible first | apply Blk.drewN | refine Blk.put_ne ?_ (by omega) | (refine Blk.new ?_; first | rfl | (simp only [size_alloc]; done)) | apply Blk.alloc)
  have B0 : Blk W0 (w.heap.size + 1) (.cells #[.int .u64 b0, .int .u64 b1, .int .u64 b2, .int .u64 b3] 43) := by
    rw [← hW0]
    repeat (with_reducible first | apply Blk.drewN | refine Blk.put_ne ?_ (by omega) | (refine Blk.new ?_; first | rfl | (simp only [size_alloc]; done)) | apply Blk.alloc)
  have R0 : Blk W0 (w.heap.size + 1 + 1) (.cells #[.int .u64 0, .int .u64 0, .int .u64 0, .int .u64 0] 43) := by
    rw [← hW0]
    repeat (with_reducible first | apply Blk.drewN | refine Blk.put_ne ?_ (by omega) | (refine Blk.new ?_; first | rfl | (simp only [size_alloc]; done)) | apply Blk.alloc)
  have O0 : Blk W0 (w.heap.size + 1 + 1 + 1) (.cells #[.int .u64 o00, .int .u64 o01, .int .u64 o02, .int .u64 o03] 43) := by
    rw [← hW0]
    exact (((((Blk.new (by simp only [size_alloc])).drewN.put 0 (.int .u64 o00) rfl).drewN.put 1 (.int .u64 o01) rfl).drewN.put 2 (.int .u64 o02) rfl).drewN.put 3 (.int .u64 o03) rfl)
  have N0 : Aside0 (Below w.heap.size w W0) := ⟨by
    rw [← hW0]
    repeat (with_reducible first | exact Below.refl _ _ | apply below_alloc | apply pw_below_drewN | refine below_set ?_ (by omega))⟩
  have F0 := O0.free
  have G0 := R0.free
  have A00 := A0.cell 0
  have A01 := A0.cell 1
  have A02 := A0.cell 2
  have A03 := A0.cell 3
  have B00 := B0.cell 0
  have B01 := B0.cell 1
  have B02 := B0.cell 2
  have B03 := B0.cell 3
  have R00 := R0.cell 0
  have R01 := R0.cell 1
  have R02 := R0.cell 2
  have R03 := R0.cell 3
  have O00 := O0.cell 0
  have O01 := O0.cell 1
  have O02 := O0.cell 2
  have O03 := O0.cell 3
  simp at A00 A01 A02 A03 B00 B01 B02 B03 R00 R01 R02 R03 O00 O01 O02 O03
  have F00 := F0 0
  have G00 := G0 0
  have F01 := F0 1
  have G01 := G0 1
  have F02 := F0 2
  have G02 := G0 2
  have F03 := F0 3
  have G03 := G0 3
  clear hW0 F0 G0
  have KA0 := Aside0.mk A0
  have KB0 := Aside0.mk B0
  have KO0 := Aside0.mk O0
  have KR0 := Aside0.mk R0
  clear A0 B0 O0 R0
  rw [rounds_succ]
  go_wp2_with fail
  refine wp_loop_rounds 5 ?_
  rw [rounds_succ]
  go_wp2_with fail
  go_quiet (fail)
  go_wp2_with fail
  rw [rounds_succ]
  go_wp2_with fail
  go_quiet (fail)
  go_wp2_with fail
  rw [rounds_succ]
  go_wp2_with fail
  go_quiet (fail)
  go_wp2_with fail
  rw [rounds_succ]
  go_wp2_with fail
  generalize hW1 : World.setCell _ _ _ = W1
  have A1 : Blk W1 (w.heap.size) (.cells #[.int .u64 a0, .int .u64 a1, .int .u64 a2, .int .u64 a3] 43) := by
    rw [← hW1]
    repeat (with_reducible first | exact KA0.out | apply Blk.drewN | refine Blk.put_ne ?_ (by omega) | (refine Blk.new ?_; first | rfl | (simp only [size_alloc]; done)) | apply Blk.alloc)
  have B1 : Blk W1 (w.heap.size + 1) (.cells #[.int .u64 b0, .int .u64 b1, .int .u64 b2, .int .u64 b3] 43) := by
    rw [← hW1]
    repeat (with_reducible first | exact KB0.out | apply Blk.drewN | refine Blk.put_ne ?_ (by omega) | (refine Blk.new ?_; first | rfl | (simp only [size_alloc]; done)) | apply Blk.alloc)
  have R1 : Blk W1 (w.heap.size + 1 + 1) (.cells #[.int .u64 0, .int .u64 0, .int .u64 0, .int .u64 0] 43) := by
    rw [← hW1]
    repeat (with_reducible first | exact KR0.out | apply Blk.drewN | refine Blk.put_ne ?_ (by omega) | (refine Blk.new ?_; first | rfl | (simp only [size_alloc]; done)) | apply Blk.alloc)
  have O1 : Blk W1 (w.heap.size + 1 + 1 + 1) (.cells #[.int .u64 o00, .int .u64 o10, .int .u64 o11, .int .u64 o12] 43) := by
    rw [← hW1]
    exact (((KO0.out.drewN.put 1 (.int .u64 o10) rfl).drewN.put 2 (.int .u64 o11) rfl).drewN.put 3 (.int .u64 o12) rfl)
  have N1 : Aside0 (Below w.heap.size w W1) := ⟨by
    rw [← hW1]
    repeat (with_reducible first | exact Below.refl _ _ | exact N0.out | apply below_alloc | apply pw_below_drewN | refine below_set ?_ (by omega))⟩
  have F1 := O1.free
  have G1 := R1.free
  have A10 := A1.cell 0
  have A11 := A1.cell 1
  have A12 := A1.cell 2
  have A13 := A1.cell 3
  have B10 := B1.cell 0
  have B11 := B1.cell 1
  have B12 := B1.cell 2
  have B13 := B1.cell 3
  have R10 := R1.cell 0
  have R11 := R1.cell 1
  have R12 := R1.cell 2
  have R13 := R1.cell 3
  have O10 := O1.cell 0
  have O11 := O1.cell 1
  have O12 := O1.cell 2
  have O13 := O1.cell 3
  simp at A10 A11 A12 A13 B10 B11 B12 B13 R10 R11 R12 R13 O10 O11 O12 O13
  have F10 := F1 0
  have G10 := G1 0
  have F11 := F1 1
  have G11 := G1 1
  have F12 := F1 2
  have G12 := G1 2
  have F13 := F1 3
  have G13 := G1 3
  clear hW1 F1 G1
  have KA1 := Aside0.mk A1
  have KB1 := Aside0.mk B1
  have KO1 := Aside0.mk O1
  have KR1 := Aside0.mk R1
  clear A1 B1 O1 R1
  clear A00 A01 A02 A03 B00 B01 B02 B03 R00 R01 R02 R03 O00 O01 O02 O03 F00 F01 F02 F03 G00 G01 G02 G03 KA0 KB0 KO0 KR0 N0
  rw [rounds_succ]
  go_wp2_with fail
  refine wp_loop_rounds 5 ?_
  rw [rounds_succ]
  go_wp2_with fail
  go_quiet (fail)
  go_wp2_with fail
  rw [rounds_succ]
  go_wp2_with fail
  go_quiet (fail)
  go_wp2_with fail
  rw [rounds_succ]
  go_wp2_with fail
  generalize hW2 : World.setCell _ _ _ = W2
  have A2 : Blk W2 (w.heap.size) (.cells #[.int .u64 a0, .int .u64 a1, .int .u64 a2, .int .u64 a3] 43) := by
    rw [← hW2]
    repeat (with_reducible first | exact KA1.out | apply Blk.drewN | refine Blk.put_ne ?_ (by omega) | (refine Blk.new ?_; first | rfl | (simp only [size_alloc]; done)) | apply Blk.alloc)
  have B2 : Blk W2 (w.heap.size + 1) (.cells #[.int .u64 b0, .int .u64 b1, .int .u64 b2, .int .u64 b3] 43) := by
    rw [← hW2]
    repeat (with_reducible first | exact KB1.out | apply Blk.drewN | refine Blk.put_ne ?_ (by omega) | (refine Blk.new ?_; first | rfl | (simp only [size_alloc]; done)) | apply Blk.alloc)
  have R2 : Blk W2 (w.heap.size + 1 + 1) (.cells #[.int .u64 0, .int .u64 0, .int .u64 0, .int .u64 0] 43) := by
    rw [← hW2]
    repeat (with_reducible first | exact KR1.out | apply Blk.drewN | refine Blk.put_ne ?_ (by omega) | (refine Blk.new ?_; first | rfl | (simp only [size_alloc]; done)) | apply Blk.alloc)
  have O2 : Blk W2 (w.heap.size + 1 + 1 + 1) (.cells #[.int .u64 o00, .int .u64 o10, .int .u64 o20, .int .u64 o21] 43) := by
    rw [← hW2]
    exact ((KO1.out.drewN.put 2 (.int .u64 o20) rfl).drewN.put 3 (.int .u64 o21) rfl)
  have N2 : Aside0 (Below w.heap.size w W2) := ⟨by
    rw [← hW2]
    repeat (with_reducible first | exact Below.refl _ _ | exact N1.out | apply below_alloc | apply pw_below_drewN | refine below_set ?_ (by omega))⟩
  have F2 := O2.free
  have G2 := R2.free
  have A20 := A2.cell 0
  have A21 := A2.cell 1
  have A22 := A2.cell 2
  have A23 := A2.cell 3
  have B20 := B2.cell 0
  have B21 := B2.cell 1
  have B22 := B2.cell 2
  have B23 := B2.cell 3
  have R20 := R2.cell 0
  have R21 := R2.cell 1
  have R22 := R2.cell 2
  have R23 := R2.cell 3
  have O20 := O2.cell 0
  have O21 := O2.cell 1
  have O22 := O2.cell 2
  have O23 := O2.cell 3
  simp at A20 A21 A22 A23 B20 B21 B22 B23 R20 R21 R22 R23 O20 O21 O22 O23
  have F20 := F2 0
  have G20 := G2 0
  have F21 := F2 1
  have G21 := G2 1
  have F22 := F2 2
  have G22 := G2 2
  have F23 := F2 3
  have G23 := G2 3
  clear hW2 F2 G2
  have KA2 := Aside0.mk A2
  have KB2 := Aside0.mk B2
  have KO2 := Aside0.mk O2
  have KR2 := Aside0.mk R2
  clear A2 B2 O2 R2
  clear A10 A11 A12 A13 B10 B11 B12 B13 R10 R11 R12 R13 O10 O11 O12 O13 F10 F11 F12 F13 G10 G11 G12 G13 KA1 KB1 KO1 KR1 N1
  rw [rounds_succ]
  go_wp2_with fail
  refine wp_loop_rounds 5 ?_
  rw [rounds_succ]
  go_wp2_with fail
  go_quiet (fail)
  go_wp2_with fail
  rw [rounds_succ]
  go_wp2_with fail
  generalize hW3 : World.setCell _ _ _ = W3
  have A3 : Blk W3 (w.heap.size) (.cells #[.int .u64 a0, .int .u64 a1, .int .u64 a2, .int .u64 a3] 43) := by
    rw [← hW3]
    repeat (with_reducible first | exact KA2.out | apply Blk.drewN | refine Blk.put_ne ?_ (by omega) | (refine Blk.new ?_; first | rfl | (simp only [size_alloc]; done)) | apply Blk.alloc)
  have B3 : Blk W3 (w.heap.size + 1) (.cells #[.int .u64 b0, .int .u64 b1, .int .u64 b2, .int .u64 b3] 43) := by
    rw [← hW3]
    repeat (with_reducible first | exact KB2.out | apply Blk.drewN | refine Blk.put_ne ?_ (by omega) | (refine Blk.new ?_; first | rfl | (simp only [size_alloc]; done)) | apply Blk.alloc)
  have R3 : Blk W3 (w.heap.size + 1 + 1) (.cells #[.int .u64 0, .int .u64 0, .int .u64 0, .int .u64 0] 43) := by
    rw [← hW3]
    repeat (with_reducible first | exact KR2.out | apply Blk.drewN | refine Blk.put_ne ?_ (by omega) | (refine Blk.new ?_; first | rfl | (simp only [size_alloc]; done)) | apply Blk.alloc)
  have O3 : Blk W3 (w.heap.size + 1 + 1 + 1) (.cells #[.int .u64 o00, .int .u64 o10, .int .u64 o20, .int .u64 o30] 43) := by
    rw [← hW3]
    exact (KO2.out.drewN.put 3 (.int .u64 o30) rfl)
  have N3 : Aside0 (Below w.heap.size w W3) := ⟨by
    rw [← hW3]
    repeat (with_reducible first | exact Below.refl _ _ | exact N2.out | apply below_alloc | apply pw_below_drewN | refine below_set ?_ (by omega))⟩
  have F3 := O3.free
  have G3 := R3.free
  have A30 := A3.cell 0
  have A31 := A3.cell 1
  have A32 := A3.cell 2
  have A33 := A3.cell 3
  have B30 := B3.cell 0
  have B31 := B3.cell 1
  have B32 := B3.cell 2
  have B33 := B3.cell 3
  have R30 := R3.cell 0
  have R31 := R3.cell 1
  have R32 := R3.cell 2
  have R33 := R3.cell 3
  have O30 := O3.cell 0
  have O31 := O3.cell 1
  have O32 := O3.cell 2
  have O33 := O3.cell 3
  simp at A30 A31 A32 A33 B30 B31 B32 B33 R30 R31 R32 R33 O30 O31 O32 O33
  have F30 := F3 0
  have G30 := G3 0
  have F31 := F3 1
  have G31 := G3 1
  have F32 := F3 2
  have G32 := G3 2
  have F33 := F3 3
  have G33 := G3 3
  clear hW3 F3 G3
  have KA3 := Aside0.mk A3
  have KB3 := Aside0.mk B3
  have KO3 := Aside0.mk O3
  have KR3 := Aside0.mk R3
  clear A3 B3 O3 R3
  clear A20 A21 A22 A23 B20 B21 B22 B23 R20 R21 R22 R23 O20 O21 O22 O23 F20 F21 F22 F23 G20 G21 G22 G23 KA2 KB2 KO2 KR2 N2
  rw [rounds_succ]
  go_wp2_with fail
  have hz := Blk.put4 KR3.out (.int .u64 o00) (.int .u64 o10) (.int .u64 o20) (.int .u64 o30)
  have y0 := hz.cell 0
  have y1 := hz.cell 1
  have y2 := hz.cell 2
  have y3 := hz.cell 3
  simp at y0 y1 y2 y3
  refine bodyPost_ret (v := big o00 o10 o20 o30) (by simp [results, Try.results22, go_sem, big, y0, y1, y2, y3]) rfl ⟨rfl, ?_⟩
  repeat (with_reducible first | exact N3.out | refine below_set ?_ (by omega))
theorem bigV_digits (d0 d1 d2 d3 z : Int) (h0 : 0 ≤ d0) (h0' : d0 < 4294967296) (h1 : 0 ≤ d1) (h1' : d1 < 4294967296) (h2 : 0 ≤ d2) (h2' : d2 < 4294967296) (h3 : 0 ≤ d3) (h3' : d3 < 4294967296) :
    bigV (d0 + 4294967296 * (d1 + 4294967296 * (d2 + 4294967296 * (d3 + 4294967296 * z)))) = big d0 d1 d2 d3 := by
  generalize hx : d0 + 4294967296 * (d1 + 4294967296 * (d2 + 4294967296 * (d3 + 4294967296 * z))) = x
  have e0 : x % 4294967296 = d0 := by omega
  have f0 : x / 4294967296 = d1 + 4294967296 * (d2 + 4294967296 * (d3 + 4294967296 * z)) := by omega
  have e1 : x / 4294967296 % 4294967296 = d1 := by rw [f0]; omega
  have f1 : x / 4294967296 / 4294967296 = d2 + 4294967296 * (d3 + 4294967296 * z) := by rw [f0]; omega
  have e2 : x / 4294967296 / 4294967296 % 4294967296 = d2 := by rw [f1]; omega
  have e3 : x / 4294967296 / 4294967296 / 4294967296 % 4294967296 = d3 := by rw [f1]; omega
  unfold bigV
  rw [e0, e1, e2, e3]
theorem digits_of (s : Int) : ∃ d0 d1 d2 d3 z : Int, s = d0 + 4294967296 * (d1 + 4294967296 * (d2 + 4294967296 * (d3 + 4294967296 * z))) ∧ 0 ≤ d0 ∧ d0 < 4294967296 ∧ 0 ≤ d1 ∧ d1 < 4294967296 ∧ 0 ≤ d2 ∧ d2 < 4294967296 ∧ 0 ≤ d3 ∧ d3 < 4294967296 :=
  ⟨s % 4294967296, s / 4294967296 % 4294967296, s / 4294967296 / 4294967296 % 4294967296, s / 4294967296 / 4294967296 / 4294967296 % 4294967296, s / 4294967296 / 4294967296 / 4294967296 / 4294967296, by omega, by omega, by omega, by omega, by omega, by omega, by omega, by omega, by omega⟩
set_option maxRecDepth 100000 in
theorem refMul (s t : Int) (w : World) :
    Calls Try.prog 22 #[bigV s, bigV t] w fun e w' => e = .returned (bigV (s * t)) ∧ Below w.heap.size w w' := by
  obtain ⟨a0, a1, a2, a3, ra, es, x0, x0', x1, x1', x2, x2', x3, x3'⟩ := digits_of s
  obtain ⟨b0, b1, b2, b3, rb, et, y0, y0', y1, y1', y2, y2', y3, y3'⟩ := digits_of t
  subst es
  subst et
  rw [bigV_digits _ _ _ _ _ x0 x0' x1 x1' x2 x2' x3 x3', bigV_digits _ _ _ _ _ y0 y0' y1 y1' y2 y2' y3 y3']
  obtain ⟨o00, c00, lo00, uo00, lc00, uc00, e00, P00, Q00, R00, T00, D00⟩ := mul_step a0 b0 0 0 x0 x0' y0 y0' (Int.le_refl 0) (by decide) (Int.le_refl 0) (by decide)
  simp only [Int.add_zero] at e00 Q00 R00 T00 D00
  obtain ⟨o01, c01, lo01, uo01, lc01, uc01, e01, P01, Q01, R01, T01, D01⟩ := mul_step a0 b1 0 c00 x0 x0' y1 y1' (Int.le_refl 0) (by decide) lc00 uc00
  simp only [Int.add_zero] at e01 Q01 R01 T01 D01
  obtain ⟨o02, c02, lo02, uo02, lc02, uc02, e02, P02, Q02, R02, T02, D02⟩ := mul_step a0 b2 0 c01 x0 x0' y2 y2' (Int.le_refl 0) (by decide) lc01 uc01
  simp only [Int.add_zero] at e02 Q02 R02 T02 D02
  obtain ⟨o03, c03, lo03, uo03, lc03, uc03, e03, P03, Q03, R03, T03, D03⟩ := mul_step a0 b3 0 c02 x0 x0' y3 y3' (Int.le_refl 0) (by decide) lc02 uc02
  simp only [Int.add_zero] at e03 Q03 R03 T03 D03
  obtain ⟨o10, c10, lo10, uo10, lc10, uc10, e10, P10, Q10, R10, T10, D10⟩ := mul_step a1 b0 o01 0 x1 x1' y0 y0' lo01 uo01 (Int.le_refl 0) (by decide)
  simp only [Int.add_zero] at e10 Q10 R10 T10 D10
  obtain ⟨o11, c11, lo11, uo11, lc11, uc11, e11, P11, Q11, R11, T11, D11⟩ := mul_step a1 b1 o02 c10 x1 x1' y1 y1' lo02 uo02 lc10 uc10
  obtain ⟨o12, c12, lo12, uo12, lc12, uc12, e12, P12, Q12, R12, T12, D12⟩ := mul_step a1 b2 o03 c11 x1 x1' y2 y2' lo03 uo03 lc11 uc11
  obtain ⟨o20, c20, lo20, uo20, lc20, uc20, e20, P20, Q20, R20, T20, D20⟩ := mul_step a2 b0 o11 0 x2 x2' y0 y0' lo11 uo11 (Int.le_refl 0) (by decide)
  simp only [Int.add_zero] at e20 Q20 R20 T20 D20
  obtain ⟨o21, c21, lo21, uo21, lc21, uc21, e21, P21, Q21, R21, T21, D21⟩ := mul_step a2 b1 o12 c20 x2 x2' y1 y1' lo12 uo12 lc20 uc20
  obtain ⟨o30, c30, lo30, uo30, lc30, uc30, e30, P30, Q30, R30, T30, D30⟩ := mul_step a3 b0 o21 0 x3 x3' y0 y0' lo21 uo21 (Int.le_refl 0) (by decide)
  simp only [Int.add_zero] at e30 Q30 R30 T30 D30
  rw [mul_digits a0 a1 a2 a3 b0 b1 b2 b3 ra rb o00 o01 o02 o03 o10 o11 o12 o20 o21 o30 c00 c01 c02 c03 c10 c11 c12 c20 c21 c30 e00 e01 e02 e03 e10 e11 e12 e20 e21 e30,
    bigV_digits _ _ _ _ _ lo00 uo00 lo10 uo10 lo20 uo20 lo30 uo30]
  exact Mul_raw _ _ _ _ _ _ _ _ _ _ _ _ _ _ _ _ _ _ _ _ _ _ _ _ _ _ _ _ _ _ _ _ _ _ _ _ _ _ _ _ _ _ _ _ _ _ _ _ _ _ _ _ _ _ _ _ _ _ P00 Q00 R00 T00 D00 P01 Q01 R01 T01 D01 P02 Q02 R02 T02 D02 P03 Q03 R03 T03 D03 P10 Q10 R10 T10 D10 P11 Q11 R11 T11 D11 P12 Q12 R12 T12 D12 P20 Q20 R20 T20 D20 P21 Q21 R21 T21 D21 P30 Q30 R30 T30 D30 w
end Go.Proofs.Ytimdoddaaelfjaa.Ext
