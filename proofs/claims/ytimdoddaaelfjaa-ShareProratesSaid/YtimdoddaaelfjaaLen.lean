/- Contracts of math/bits.Len64 and LeadingZeros64, proved by walking their code. (Printed by wip/money/gen_len.py.) -/
import Derived.Test.YtimdoddaaelfjaaExt1
namespace Go.Proofs.Ytimdoddaaelfjaa.Ext
open Go.RowKit Go.Proofs.YtimdoddaaelfjaaW.PrintWords Go.Proofs.YtimdoddaaelfjaaW.PrintLast Go.Proofs.YtimdoddaaelfjaaW.PrintMore Go.Proofs.YtimdoddaaelfjaaW.Hand
set_option linter.unusedVariables false
def lenOk (B : ByteArray) : Bool := (List.range 256).all fun j => decide ((B.data.getD j 0).toNat ≤ 8) && decide (j < 2 ^ (B.data.getD j 0).toNat) && (decide (j = 0) || decide (2 ^ (B.data.getD j 0).toNat ≤ 2 * j))
theorem len_leaf (B : ByteArray) (hB : B.size = 256) (hall : lenOk B = true)
    (x x3 s : Nat) (hs : x3 = x / 2 ^ s) (hs56 : s ≤ 56) (hp : s = 0 ∨ 0 < x3) (h : x3 < B.size) (v : Int) (hv : ∀ m : Nat, m ≤ 8 → (B[x3]'h).toNat = m → v = s + m) (w : World) :
    ∃ n : Nat, Ending.returned (.int .i64 v) = .returned (.int .i64 n) ∧ n ≤ 64 ∧ x < 2 ^ n ∧ (0 < x → 2 ^ n ≤ 2 * x) ∧ w = w := by
  have hc := List.all_eq_true.1 hall x3 (List.mem_range.2 (by omega))
  have hd : B.data.getD x3 0 = B[x3]'h := by
    rw [Array.getD_eq_getD_getElem?, Array.getElem?_eq_getElem (show x3 < B.data.size from h)]; rfl
  simp only [hd, Bool.and_eq_true, Bool.or_eq_true, decide_eq_true_eq] at hc
  obtain ⟨⟨h1, h2⟩, h3'⟩ := hc
  have h3 : 0 < x3 → 2 ^ (B[x3]'h).toNat ≤ 2 * x3 := fun hx => by
    rcases h3' with h | h
    · omega
    · exact h
  clear h3'
  generalize hm : (B[x3]'h).toNat = m at *
  have e := hv m h1 rfl
  refine ⟨s + m, by rw [e]; rfl, by omega, ?_, fun hx => ?_, rfl⟩
  · rw [hs, Nat.div_lt_iff_lt_mul (Nat.two_pow_pos s), ← Nat.pow_add, Nat.add_comm m s] at h2
    exact h2
  · rcases hp with rfl | hp
    · simp only [Nat.pow_zero, Nat.div_one] at hs
      subst hs
      rw [Nat.zero_add]; exact h3 hx
    · have h4 := h3 hp
      have h5 : 2 ^ s * 2 ^ m ≤ 2 ^ s * (2 * x3) := Nat.mul_le_mul_left _ h4
      have h6 : x / 2 ^ s * 2 ^ s ≤ x := Nat.div_mul_le_self x (2 ^ s)
      rw [← hs, Nat.mul_comm] at h6
      rw [Nat.pow_add]
      calc 2 ^ s * 2 ^ m ≤ 2 ^ s * (2 * x3) := h5
        _ = 2 * (2 ^ s * x3) := by rw [Nat.mul_left_comm]
        _ ≤ 2 * x := Nat.mul_le_mul_left _ h6
theorem len_leaf_s (B : ByteArray) (hB : B.size = 256) (hall : lenOk B = true) (x x3 s : Nat) (hs : x3 = x / 2 ^ s) (hs56 : s ≤ 56) (hp : s = 0 ∨ 0 < x3) (h : x3 < B.size) (S : Int) (hS : S = s) (w : World) :
    ∃ n : Nat, Ending.returned (.int .i64 (wrap64 (S + wrap64 (B[x3]'h).toNat))) = .returned (.int .i64 n) ∧ n ≤ 64 ∧ x < 2 ^ n ∧ (0 < x → 2 ^ n ≤ 2 * x) ∧ w = w :=
  len_leaf B hB hall x x3 s hs hs56 hp h _ (fun m hm e => by rw [e, hS]; unfold wrap64; omega) w
theorem len_leaf_0 (B : ByteArray) (hB : B.size = 256) (hall : lenOk B = true) (x : Nat) (h : x < B.size) (w : World) :
    ∃ n : Nat, Ending.returned (.int .i64 (wrap64 (wrap64 (B[x]'h).toNat))) = .returned (.int .i64 n) ∧ n ≤ 64 ∧ x < 2 ^ n ∧ (0 < x → 2 ^ n ≤ 2 * x) ∧ w = w :=
  len_leaf B hB hall x x 0 (by simp) (by decide) (.inl rfl) h _ (fun m hm e => by rw [e]; unfold wrap64; omega) w
set_option maxRecDepth 100000 in
set_option maxHeartbeats 6400000 in
theorem Len64_any (x : Nat) (hx : x < 18446744073709551616) (w : World) :
    Calls Try.prog 37 #[.int .u64 x] w fun e w' => ∃ n : Nat, e = .returned (.int .i64 n) ∧ n ≤ 64 ∧ x < 2 ^ n ∧ (0 < x → 2 ^ n ≤ 2 * x) ∧ w' = w := by
  by_cases c0 : 4294967296 ≤ x
  · obtain ⟨x1, h0⟩ : ∃ n : Nat, (x : Int) / 4294967296 = n := ⟨x / 4294967296, by omega⟩
    have b0 : decide ((4294967296 : Int) ≤ x) = true := decide_eq_true (by omega)
    by_cases c1 : 65536 ≤ x1
    · obtain ⟨x2, h1⟩ : ∃ n : Nat, (x1 : Int) / 65536 = n := ⟨x1 / 65536, by omega⟩
      have b1 : decide ((65536 : Int) ≤ x1) = true := decide_eq_true (by omega)
      by_cases c2 : 256 ≤ x2
      · obtain ⟨x3, h2⟩ : ∃ n : Nat, (x2 : Int) / 256 = n := ⟨x2 / 256, by omega⟩
        have b2 : decide ((256 : Int) ≤ x2) = true := decide_eq_true (by omega)
        have d4 : IntKind.u8.wrap (x3 : Int) = x3 := by rw [IntKind.wrap_u8]; omega
        have p0 : (0 ≤ (x3 : Int)) = True := eq_true (by omega)
        have p1 : ((x3 : Int) < 256) = True := eq_true (by omega)
        have HX : Aside0 (x3 = x / 2 ^ 56) := ⟨by omega⟩
        have HZ : Aside0 (56 = 0 ∨ 0 < x3) := ⟨by omega⟩
        clear hx c0 c1 c2
        go_enter Try.func37, Try.ntmps37
        go_wp2
        go_ret
        exact len_leaf_s _ (by kernel_rfl) (by kernel_rfl) x x3 56 HX.out (by decide) HZ.out _ _ (by first | rfl | decide) _
      · have b2 : decide ((256 : Int) ≤ x2) = false := decide_eq_false (by omega)
        have d4 : IntKind.u8.wrap (x2 : Int) = x2 := by rw [IntKind.wrap_u8]; omega
        have p0 : (0 ≤ (x2 : Int)) = True := eq_true (by omega)
        have p1 : ((x2 : Int) < 256) = True := eq_true (by omega)
        have HX : Aside0 (x2 = x / 2 ^ 48) := ⟨by omega⟩
        have HZ : Aside0 (48 = 0 ∨ 0 < x2) := ⟨by omega⟩
        clear hx c0 c1 c2
        go_enter Try.func37, Try.ntmps37
        go_wp2
        go_ret
        exact len_leaf_s _ (by kernel_rfl) (by kernel_rfl) x x2 48 HX.out (by decide) HZ.out _ _ (by first | rfl | decide) _
    · have b1 : decide ((65536 : Int) ≤ x1) = false := decide_eq_false (by omega)
      by_cases c2 : 256 ≤ x1
      · obtain ⟨x3, h2⟩ : ∃ n : Nat, (x1 : Int) / 256 = n := ⟨x1 / 256, by omega⟩
        have b2 : decide ((256 : Int) ≤ x1) = true := decide_eq_true (by omega)
        have d4 : IntKind.u8.wrap (x3 : Int) = x3 := by rw [IntKind.wrap_u8]; omega
        have p0 : (0 ≤ (x3 : Int)) = True := eq_true (by omega)
        have p1 : ((x3 : Int) < 256) = True := eq_true (by omega)
        have HX : Aside0 (x3 = x / 2 ^ 40) := ⟨by omega⟩
        have HZ : Aside0 (40 = 0 ∨ 0 < x3) := ⟨by omega⟩
        clear hx c0 c1 c2
        go_enter Try.func37, Try.ntmps37
        go_wp2
        go_ret
        exact len_leaf_s _ (by kernel_rfl) (by kernel_rfl) x x3 40 HX.out (by decide) HZ.out _ _ (by first | rfl | decide) _
      · have b2 : decide ((256 : Int) ≤ x1) = false := decide_eq_false (by omega)
        have d4 : IntKind.u8.wrap (x1 : Int) = x1 := by rw [IntKind.wrap_u8]; omega
        have p0 : (0 ≤ (x1 : Int)) = True := eq_true (by omega)
        have p1 : ((x1 : Int) < 256) = True := eq_true (by omega)
        have HX : Aside0 (x1 = x / 2 ^ 32) := ⟨by omega⟩
        have HZ : Aside0 (32 = 0 ∨ 0 < x1) := ⟨by omega⟩
        clear hx c0 c1 c2
        go_enter Try.func37, Try.ntmps37
        go_wp2
        go_ret
        exact len_leaf_s _ (by kernel_rfl) (by kernel_rfl) x x1 32 HX.out (by decide) HZ.out _ _ (by first | rfl | decide) _
  · have b0 : decide ((4294967296 : Int) ≤ x) = false := decide_eq_false (by omega)
    by_cases c1 : 65536 ≤ x
    · obtain ⟨x2, h1⟩ : ∃ n : Nat, (x : Int) / 65536 = n := ⟨x / 65536, by omega⟩
      have b1 : decide ((65536 : Int) ≤ x) = true := decide_eq_true (by omega)
      by_cases c2 : 256 ≤ x2
      · obtain ⟨x3, h2⟩ : ∃ n : Nat, (x2 : Int) / 256 = n := ⟨x2 / 256, by omega⟩
        have b2 : decide ((256 : Int) ≤ x2) = true := decide_eq_true (by omega)
        have d4 : IntKind.u8.wrap (x3 : Int) = x3 := by rw [IntKind.wrap_u8]; omega
        have p0 : (0 ≤ (x3 : Int)) = True := eq_true (by omega)
        have p1 : ((x3 : Int) < 256) = True := eq_true (by omega)
        have HX : Aside0 (x3 = x / 2 ^ 24) := ⟨by omega⟩
        have HZ : Aside0 (24 = 0 ∨ 0 < x3) := ⟨by omega⟩
        clear hx c0 c1 c2
        go_enter Try.func37, Try.ntmps37
        go_wp2
        go_ret
        exact len_leaf_s _ (by kernel_rfl) (by kernel_rfl) x x3 24 HX.out (by decide) HZ.out _ _ (by first | rfl | decide) _
      · have b2 : decide ((256 : Int) ≤ x2) = false := decide_eq_false (by omega)
        have d4 : IntKind.u8.wrap (x2 : Int) = x2 := by rw [IntKind.wrap_u8]; omega
        have p0 : (0 ≤ (x2 : Int)) = True := eq_true (by omega)
        have p1 : ((x2 : Int) < 256) = True := eq_true (by omega)
        have HX : Aside0 (x2 = x / 2 ^ 16) := ⟨by omega⟩
        have HZ : Aside0 (16 = 0 ∨ 0 < x2) := ⟨by omega⟩
        clear hx c0 c1 c2
        go_enter Try.func37, Try.ntmps37
        go_wp2
        go_ret
        exact len_leaf_s _ (by kernel_rfl) (by kernel_rfl) x x2 16 HX.out (by decide) HZ.out _ _ (by first | rfl | decide) _
    · have b1 : decide ((65536 : Int) ≤ x) = false := decide_eq_false (by omega)
      by_cases c2 : 256 ≤ x
      · obtain ⟨x3, h2⟩ : ∃ n : Nat, (x : Int) / 256 = n := ⟨x / 256, by omega⟩
        have b2 : decide ((256 : Int) ≤ x) = true := decide_eq_true (by omega)
        have d4 : IntKind.u8.wrap (x3 : Int) = x3 := by rw [IntKind.wrap_u8]; omega
        have p0 : (0 ≤ (x3 : Int)) = True := eq_true (by omega)
        have p1 : ((x3 : Int) < 256) = True := eq_true (by omega)
        have HX : Aside0 (x3 = x / 2 ^ 8) := ⟨by omega⟩
        have HZ : Aside0 (8 = 0 ∨ 0 < x3) := ⟨by omega⟩
        clear hx c0 c1 c2
        go_enter Try.func37, Try.ntmps37
        go_wp2
        go_ret
        exact len_leaf_s _ (by kernel_rfl) (by kernel_rfl) x x3 8 HX.out (by decide) HZ.out _ _ (by first | rfl | decide) _
      · have b2 : decide ((256 : Int) ≤ x) = false := decide_eq_false (by omega)
        have d4 : IntKind.u8.wrap (x : Int) = x := by rw [IntKind.wrap_u8]; omega
        have p0 : (0 ≤ (x : Int)) = True := eq_true (by omega)
        have p1 : ((x : Int) < 256) = True := eq_true (by omega)
        have HX : Aside0 (x = x / 2 ^ 0) := ⟨by omega⟩
        have HZ : Aside0 (0 = 0 ∨ 0 < x) := ⟨by omega⟩
        clear hx c0 c1 c2
        go_enter Try.func37, Try.ntmps37
        go_wp2
        go_ret
        exact len_leaf_0 _ (by kernel_rfl) (by kernel_rfl) x _ _
theorem LeadingZeros64_any (x : Nat) (hx : x < 18446744073709551616) (w : World) :
    Calls Try.prog 33 #[.int .u64 x] w fun e w' => ∃ n : Nat, e = .returned (.int .i64 n) ∧ n ≤ 64 ∧ x * 2 ^ n < 18446744073709551616 ∧ (0 < x → 9223372036854775808 ≤ x * 2 ^ n) ∧ w' = w := by
  go_enter Try.func33, Try.ntmps33
  go_wp2_with fail
  refine (Len64_any x hx _).mono ?_
  rintro e w1 ⟨n, rfl, h1, h2, h3, rfl⟩
  have H : Aside0 (n ≤ 64 ∧ x < 2 ^ n ∧ (0 < x → 2 ^ n ≤ 2 * x)) := ⟨h1, h2, h3⟩
  clear h1 h2 h3 hx
  go_wp2
  go_ret
  obtain ⟨h1, h2, h3⟩ := H.out
  have p1 : 2 ^ n * 2 ^ (64 - n) = 18446744073709551616 := by rw [← Nat.pow_add, show n + (64 - n) = 64 by omega]
  refine ⟨64 - n, ?_, by omega, ?_, fun h => ?_, rfl⟩
  · show Ending.returned (.int .i64 (wrap64 (64 - ↑n))) = _
    congr 2; unfold wrap64; omega
  · rw [← p1]; exact Nat.mul_lt_mul_of_pos_right h2 (Nat.two_pow_pos _)
  · have h4 : 2 ^ n * 2 ^ (64 - n) ≤ 2 * x * 2 ^ (64 - n) := Nat.mul_le_mul_right _ (h3 h)
    rw [p1, Nat.mul_assoc] at h4
    omega
end Go.Proofs.Ytimdoddaaelfjaa.Ext
