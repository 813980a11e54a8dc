/- Plain arithmetic of the division bit by bit. -/
import Derived.Test.YtimdoddaaelfjaaRef3
namespace Go.Proofs.Ytimdoddaaelfjaa.Ext
open Go.RowKit Go.Proofs.YtimdoddaaelfjaaW.PrintWords Go.Proofs.YtimdoddaaelfjaaW.PrintLast Go.Proofs.YtimdoddaaelfjaaW.PrintMore Go.Proofs.YtimdoddaaelfjaaW.Hand
set_option linter.unusedVariables false
theorem Blk.put4_ne {W : World} {g g' : Nat} {o : Obj} (h : Blk W g o) (hne : g ≠ g') (u0 u1 u2 u3 : Value) :
    Blk ((((W.setCell ⟨g', 0, none⟩ u0).setCell ⟨g', 1, none⟩ u1).setCell ⟨g', 2, none⟩ u2).setCell ⟨g', 3, none⟩ u3) g o :=
  Blk.put_ne (Blk.put_ne (Blk.put_ne (Blk.put_ne h hne) hne) hne) hne
theorem below_put4 {w W : World} {g : Nat} (h : Below w.heap.size w W) (hg : w.heap.size ≤ g) (u0 u1 u2 u3 : Value) :
    Below w.heap.size w ((((W.setCell ⟨g, 0, none⟩ u0).setCell ⟨g, 1, none⟩ u1).setCell ⟨g, 2, none⟩ u2).setCell ⟨g, 3, none⟩ u3) :=
  below_set (below_set (below_set (below_set h hg) hg) hg) hg
theorem part_step (N d : Int) (m : Nat) (hN : 0 ≤ N) (hd : 1 ≤ d) : ∃ bit : Int, bit = N / 2 ^ m % 2 ∧ 0 ≤ bit ∧ bit ≤ 1 ∧ 0 ≤ N / 2 ^ (m + 1) % d ∧ N / 2 ^ (m + 1) % d < d ∧
    (N / 2 ^ (m + 1) % d + N / 2 ^ (m + 1) % d + bit < d → N / 2 ^ m / d = N / 2 ^ (m + 1) / d + N / 2 ^ (m + 1) / d ∧ N / 2 ^ m % d = N / 2 ^ (m + 1) % d + N / 2 ^ (m + 1) % d + bit) ∧
    (¬ N / 2 ^ (m + 1) % d + N / 2 ^ (m + 1) % d + bit < d → N / 2 ^ m / d = N / 2 ^ (m + 1) / d + N / 2 ^ (m + 1) / d + 1 ∧ N / 2 ^ m % d = N / 2 ^ (m + 1) % d + N / 2 ^ (m + 1) % d + bit + -d) := by
  have e : N / 2 ^ (m + 1) = N / 2 ^ m / 2 := by
    rw [Int.pow_succ, Int.ediv_ediv_of_nonneg (Int.le_of_lt (Int.pow_pos (by decide)))]
  rw [e]
  generalize N / 2 ^ m = M
  refine ⟨M % 2, rfl, by omega, by omega, Int.emod_nonneg _ (by omega), Int.emod_lt_of_pos _ (by omega), ?_, ?_⟩
  all_goals
    intro h
    have h1 := Int.emod_add_mul_ediv (M / 2) d
    have h2 := Int.emod_nonneg (M / 2) (show d ≠ 0 by omega)
    have h3 := Int.emod_lt_of_pos (M / 2) (show 0 < d by omega)
    have h4 : M = M / 2 + M / 2 + M % 2 := by omega
    have h5 : 0 ≤ M % 2 := by omega
    have h6 : M % 2 ≤ 1 := by omega
    generalize M / 2 / d = q at *
    generalize M / 2 % d = r at *
    generalize M % 2 = b at *
    generalize M / 2 = k at *
    clear e
    subst h4
    subst h1
    rw [and_comm]
  · have : r + d * q + (r + d * q) + b = (r + r + b) + d * (q + q) := by rw [Int.mul_add]; omega
    rw [this]
    exact ⟨by rw [Int.add_mul_emod_self_left]; exact Int.emod_eq_of_lt (by omega) h, by rw [Int.add_mul_ediv_left _ _ (by omega), Int.ediv_eq_zero_of_lt (by omega) h]; omega⟩
  · have : r + d * q + (r + d * q) + b = (r + r + b + -d) + d * (q + q + 1) := by rw [Int.mul_add, Int.mul_add, Int.mul_one]; generalize d * q = z; omega
    rw [this]
    exact ⟨by rw [Int.add_mul_emod_self_left]; exact Int.emod_eq_of_lt (by omega) (by omega), by rw [Int.add_mul_ediv_left _ _ (by omega), Int.ediv_eq_zero_of_lt (by omega) (by omega)]; omega⟩
theorem part_digit (N : Int) (m : Nat) (hm : m < 128) (n0 n1 n2 n3 : Int) (h : bigC N = .cells #[.int .u64 n0, .int .u64 n1, .int .u64 n2, .int .u64 n3] 43) :
    ∃ nd : Int, (#[.int .u64 n0, .int .u64 n1, .int .u64 n2, .int .u64 n3] : Array Value)[m / 32]? = some (.int .u64 nd) ∧ nd / (2 ^ (m % 32) : Nat) % 2 = N / 2 ^ m % 2 ∧ 0 ≤ nd ∧ nd < 4294967296 := by
  unfold bigC at h
  simp only [Obj.cells.injEq, Array.mk.injEq, List.cons.injEq, Value.int.injEq, true_and, and_true] at h
  obtain ⟨rfl, rfl, rfl, rfl⟩ := h
  have hp : ∀ (x : Int) (k e : Nat), x / (2 ^ k : Nat) / (2 ^ e : Nat) = x / 2 ^ (k + e) := by
    intro x k e
    rw [Int.ediv_ediv_of_nonneg (Int.natCast_nonneg _), ← Int.natCast_mul, ← Nat.pow_add]
    simp
  have hl : m % 32 < 32 := Nat.mod_lt _ (by decide)
  have hsum : 32 * (m / 32) + m % 32 = m := Nat.div_add_mod m 32
  have hc : m / 32 = 0 ∨ m / 32 = 1 ∨ m / 32 = 2 ∨ m / 32 = 3 := by omega
  generalize m % 32 = e at *
  have K : (4294967296 : Int) = ((2 ^ 32 : Nat) : Int) := rfl
  rcases hc with hc | hc | hc | hc <;> rw [hc] at hsum ⊢
  · refine ⟨_, rfl, ?_, by omega, by omega⟩
    rw [bit_of _ _ hl, ← hsum]
    have := hp N 0 e
    simp at this
    simp
  · refine ⟨_, rfl, ?_, by omega, by omega⟩
    rw [bit_of _ _ hl, K, hp, ← hsum]
  · refine ⟨_, rfl, ?_, by omega, by omega⟩
    rw [bit_of _ _ hl, K, Int.ediv_ediv_of_nonneg (by omega), ← Int.natCast_mul, ← Nat.pow_add, hp, ← hsum]
    congr 3
    omega
  · refine ⟨_, rfl, ?_, by omega, by omega⟩
    rw [bit_of _ _ hl, K, Int.ediv_ediv_of_nonneg (by omega), ← Int.natCast_mul, ← Nat.pow_add, Int.ediv_ediv_of_nonneg (by omega), ← Int.natCast_mul, ← Nat.pow_add, hp, ← hsum]
    congr 3
    omega
/-- Twice a number, and a bit: its digits. -/
theorem big_bit (r b : Int) (h0 : 0 ≤ b) (h1 : b ≤ 1) (s0 s1 s2 s3 : Int) (h : bigC (r + r) = .cells #[.int .u64 s0, .int .u64 s1, .int .u64 s2, .int .u64 s3] 43) :
    bigC (r + r + b) = .cells #[.int .u64 (s0 + b), .int .u64 s1, .int .u64 s2, .int .u64 s3] 43 ∧ bigV (r + r + b) = .agg #[.int .u64 (s0 + b), .int .u64 s1, .int .u64 s2, .int .u64 s3] ∧ IntKind.u64.wrap (s0 + b) = s0 + b := by
  unfold bigC at h
  simp only [Obj.cells.injEq, Array.mk.injEq, List.cons.injEq, Value.int.injEq, true_and, and_true] at h
  obtain ⟨rfl, rfl, rfl, rfl⟩ := h
  have e0 : (r + r + b) % 4294967296 = (r + r) % 4294967296 + b := by omega
  have e1 : (r + r + b) / 4294967296 = (r + r) / 4294967296 := by omega
  refine ⟨?_, ?_, wrapUI _ (by omega) (by omega)⟩
  · unfold bigC; rw [e0, e1]
  · unfold bigV big; rw [e0, e1]
end Go.Proofs.Ytimdoddaaelfjaa.Ext
