/- math/bits.ReverseBytes32, proved by walking its code. -/
import Derived.Test.YtddajglkefpjdaaIter
import Derived.Test.YtddajglkefpjdaaCrcM2
import Derived.Laws.BitsAllLaws
import Derived.Laws.BitsLemmas
namespace Go.Proofs.Ytddajglkefpjdaa.Ext
open Go.RowKit Go.Shelf Go.Proofs.YtddajglkefpjdaaW.PrintWords Go.Proofs.YtddajglkefpjdaaW.PrintLast Go.Proofs.YtddajglkefpjdaaW.PrintMore Go.Proofs.YtddajglkefpjdaaW.Hand
set_option linter.unusedVariables false
theorem mask_ff (x : Nat) : x &&& 16711935 = 65536 * (x / 65536 % 256) + x % 256 := by
  have e : (16711935 : Nat) = 65536 * 255 + 255 := rfl
  have h0 : x &&& 16711935 = (2 ^ 16 * (x / 65536) + x % 65536) &&& (2 ^ 16 * 255 + 255) := by
    congr 1
    omega
  rw [h0]
  have h1 : (2 ^ 16 * (x / 65536) + x % 65536) &&& (2 ^ 16 * 255 + 255) = 2 ^ 16 * ((x / 65536) &&& 255) + ((x % 65536) &&& 255) := by
    apply Nat.eq_of_testBit_eq
    intro i
    have hb : ((x % 65536) &&& 255) < 2 ^ 16 := Nat.lt_of_le_of_lt Nat.and_le_right (by decide)
    rw [Nat.testBit_and, Nat.testBit_two_pow_mul_add _ (by omega), Nat.testBit_two_pow_mul_add _ (by decide), Nat.testBit_two_pow_mul_add _ hb]
    split <;> simp [Nat.testBit_and]
  rw [h1]
  have h2 : ∀ y : Nat, y &&& 255 = y % 256 := fun y => Nat.and_two_pow_sub_one_eq_mod y 8
  rw [h2, h2]
  omega
theorem or_halves (p q r s : Nat) (hq : q < 2 ^ 16) (hs : s < 2 ^ 16) : (2 ^ 16 * p + q) ||| (2 ^ 16 * r + s) = 2 ^ 16 * (p ||| r) + (q ||| s) := by
  apply Nat.eq_of_testBit_eq
  intro i
  rw [Nat.testBit_or, Nat.testBit_two_pow_mul_add _ hq, Nat.testBit_two_pow_mul_add _ hs, Nat.testBit_two_pow_mul_add _ (Nat.or_lt_two_pow hq hs)]
  split <;> simp [Nat.testBit_or]
theorem rev_first (n : Nat) (h : n < 4294967296) : (n / 256 &&& 16711935) ||| ((n &&& 16711935) * 256 % 4294967296) = 65536 * (256 * (n / 65536 % 256) + n / 16777216 % 256) + (256 * (n % 256) + n / 256 % 256) := by
  have e1 : (n / 256 &&& 16711935) = 2 ^ 16 * (n / 16777216 % 256) + n / 256 % 256 := by rw [mask_ff]; omega
  have e2 : ((n &&& 16711935) * 256 % 4294967296) = 2 ^ 16 * (256 * (n / 65536 % 256)) + 256 * (n % 256) := by rw [mask_ff]; omega
  rw [e1, e2, or_halves _ _ _ _ (by omega) (by omega), Nat.or_comm, Nat.or_comm (n / 256 % 256), nat_join 8 (256 * (n / 65536 % 256)) _ (by omega) (by omega), nat_join 8 (256 * (n % 256)) _ (by omega) (by omega)]
/-- A number's bytes, turned. -/
def revB (n : Nat) : Nat := 16777216 * (n % 256) + 65536 * (n / 256 % 256) + 256 * (n / 65536 % 256) + n / 16777216 % 256
theorem revB_lt (n : Nat) : revB n < 4294967296 := by unfold revB; omega
theorem rev_bits (n : Nat) (h : n < 4294967296) : bits .or .u32 (bits .or .u32 (bits .and .u32 ((n : Int) / 256) 16711935) (bits .and .u32 (n : Int) 16711935 * 256 % 4294967296) / 65536)
    (bits .or .u32 (bits .and .u32 ((n : Int) / 256) 16711935) (bits .and .u32 (n : Int) 16711935 * 256 % 4294967296) * 65536 % 4294967296) = ((revB n : Nat) : Int) := by
  have a1 : bits .and .u32 ((n : Int) / 256) 16711935 = ((n / 256 &&& 16711935 : Nat) : Int) := u32_and_nat (n / 256) 16711935 (by omega) (by decide)
  have a2 : bits .and .u32 (n : Int) 16711935 = ((n &&& 16711935 : Nat) : Int) := u32_and_nat n 16711935 h (by decide)
  have l1 : n / 256 &&& 16711935 < 4294967296 := Nat.lt_of_le_of_lt Nat.and_le_right (by decide)
  have a3 : bits .or .u32 (((n / 256 &&& 16711935 : Nat) : Int)) (((n &&& 16711935 : Nat) : Int) * 256 % 4294967296) = (((n / 256 &&& 16711935) ||| ((n &&& 16711935) * 256 % 4294967296) : Nat) : Int) := by
    have := u32_or_nat (n / 256 &&& 16711935) ((n &&& 16711935) * 256 % 4294967296) l1 (by omega)
    rw [← this]
    congr 1
  rw [a1, a2, a3, rev_first n h]
  unfold revB
  obtain ⟨b0, h0⟩ : ∃ b, n % 256 = b := ⟨_, rfl⟩
  obtain ⟨b1, h1⟩ : ∃ b, n / 256 % 256 = b := ⟨_, rfl⟩
  obtain ⟨b2, h2⟩ : ∃ b, n / 65536 % 256 = b := ⟨_, rfl⟩
  obtain ⟨b3, h3⟩ : ∃ b, n / 16777216 % 256 = b := ⟨_, rfl⟩
  have g0 : b0 < 256 := by omega
  have g1 : b1 < 256 := by omega
  have g2 : b2 < 256 := by omega
  have g3 : b3 < 256 := by omega
  have g4 : n / 16777216 = b3 := by omega
  rw [h0, h1, h2]
  rw [h3]
  clear a1 a2 a3 l1 h0 h1 h2 h3
  obtain ⟨X, hX⟩ : ∃ X, 65536 * (256 * b2 + b3) + (256 * b0 + b1) = X := ⟨_, rfl⟩
  rw [hX]
  have x1 : X / 65536 = 256 * b2 + b3 := by omega
  have x2 : X * 65536 % 4294967296 = 65536 * (256 * b0 + b1) := by omega
  have a4 := u32_or_nat (X / 65536) (X * 65536 % 4294967296) (by omega) (by omega)
  have a5 : (X / 65536) ||| (X * 65536 % 4294967296) = 16777216 * b0 + 65536 * b1 + 256 * b2 + b3 := by
    rw [x1, x2, Nat.or_comm, nat_join 16 _ _ (by omega) (by omega)]
    omega
  rw [a5] at a4
  try rw [g4]
  rw [← a4]
  congr 1
theorem rev_calls (n : Nat) (h : n < 4294967296) (w : World) : Calls Try.prog 28 #[.int .u32 (n : Int)] w fun e w' => e = .returned (.int .u32 ((revB n : Nat) : Int)) ∧ w = w' := by
  have hr := Aside0.mk (rev_bits n h)
  go_enter Try.func28, Try.ntmps28
  go_wp2
  go_ret
  exact ⟨congrArg (fun v => Ending.returned (Value.int .u32 v)) hr.out, rfl⟩
theorem bytes_of4 (b0 b1 b2 b3 : Int) (h0 : 0 ≤ b0 ∧ b0 < 256) (h1 : 0 ≤ b1 ∧ b1 < 256) (h2 : 0 ≤ b2 ∧ b2 < 256) (h3 : 0 ≤ b3 ∧ b3 < 256) :
    (16777216 * b3 + 65536 * b2 + 256 * b1 + b0) % 256 = b0 ∧ (16777216 * b3 + 65536 * b2 + 256 * b1 + b0) / 256 % 256 = b1 ∧ (16777216 * b3 + 65536 * b2 + 256 * b1 + b0) / 65536 % 256 = b2 ∧ (16777216 * b3 + 65536 * b2 + 256 * b1 + b0) / 16777216 % 256 = b3 := by
  have e1 : (16777216 * b3 + 65536 * b2 + 256 * b1 + b0) / 256 = 65536 * b3 + 256 * b2 + b1 := by omega
  have e2 : (16777216 * b3 + 65536 * b2 + 256 * b1 + b0) / 65536 = 256 * b3 + b2 := by omega
  have e3 : (16777216 * b3 + 65536 * b2 + 256 * b1 + b0) / 16777216 = b3 := by omega
  rw [e1, e2, e3]
  refine ⟨by omega, by omega, by omega, by omega⟩
theorem split4 (n : Nat) (h : n < 4294967296) : ∃ b0 b1 b2 b3 : Nat, b0 < 256 ∧ b1 < 256 ∧ b2 < 256 ∧ b3 < 256 ∧ n = 16777216 * b3 + 65536 * b2 + 256 * b1 + b0 := by
  refine ⟨n % 256, n / 256 % 256, n / 65536 % 256, n / 16777216, by omega, by omega, by omega, by omega, ?_⟩
  have e1 : n / 65536 = n / 256 / 256 := by omega
  have e2 : n / 16777216 = n / 256 / 256 / 256 := by omega
  omega
theorem beN_rev (n : Nat) (h : n < 4294967296) : (beN 8 ((revB n : Nat) : Int)).drop 4 = placeOf (n : Int) := by
  have e : (beN 8 ((revB n : Nat) : Int)).drop 4 = [((revB n : Nat) : Int) / 16777216 % 256, ((revB n : Nat) : Int) / 65536 % 256, ((revB n : Nat) : Int) / 256 % 256, ((revB n : Nat) : Int) / 1 % 256] := rfl
  rw [e, Int.ediv_one]
  obtain ⟨b0, b1, b2, b3, g0, g1, g2, g3, hn⟩ := split4 n h
  have hc : (n : Int) = 16777216 * (b3 : Int) + 65536 * (b2 : Int) + 256 * (b1 : Int) + (b0 : Int) := by omega
  obtain ⟨p0, p1, p2, p3⟩ := bytes_of4 b0 b1 b2 b3 (by omega) (by omega) (by omega) (by omega)
  rw [← hc] at p0 p1 p2 p3
  have hr : ((revB n : Nat) : Int) = 16777216 * (b0 : Int) + 65536 * (b1 : Int) + 256 * (b2 : Int) + (b3 : Int) := by
    have q0 : n % 256 = b0 := by omega
    have q1 : n / 256 % 256 = b1 := by omega
    have q2 : n / 65536 % 256 = b2 := by omega
    have q3 : n / 16777216 % 256 = b3 := by omega
    unfold revB
    rw [q0, q1, q2, q3]
    omega
  obtain ⟨r0, r1, r2, r3⟩ := bytes_of4 b3 b2 b1 b0 (by omega) (by omega) (by omega) (by omega)
  rw [← hr] at r0 r1 r2 r3
  unfold placeOf
  rw [r0, r1, r2, r3, p0, p1, p2, p3]
end Go.Proofs.Ytddajglkefpjdaa.Ext
