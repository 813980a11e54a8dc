/- Bytes of numbers stand in the numbers' order; the rows WireBounds and WireOrder. -/
import Derived.Test.YtbiidbiammppiaaLaws1
import Derived.Lib.Strings
namespace Go.Proofs.Ytbiidbiammppiaa.Ext
open Go.RowKit Go.Proofs.YtbiidbiammppiaaW.PrintWords Go.Proofs.YtbiidbiammppiaaW.PrintLast Go.Proofs.YtbiidbiammppiaaW.PrintMore Go.Proofs.YtbiidbiammppiaaW.Hand
set_option linter.unusedVariables false
theorem strOf_list (l : List Int) : (strOfNums l).toList = l.map fun n => UInt8.ofNat n.toNat := by
  rw [Lib.toList_data]; simp [strOfNums]
theorem u8_lt (a b : Int) (ha : IsByte a) (hb : IsByte b) : (UInt8.ofNat a.toNat < UInt8.ofNat b.toNat) ↔ a < b := by
  unfold IsByte at *
  rw [UInt8.lt_iff_toNat_lt]; simp; omega
theorem u8_eq (a b : Int) (ha : IsByte a) (hb : IsByte b) : (UInt8.ofNat a.toNat = UInt8.ofNat b.toNat) ↔ a = b := by
  unfold IsByte at *
  rw [← UInt8.toNat_inj]; simp; omega
theorem beN_bytes (n : Nat) (v : Int) : ∀ c ∈ beN n v, IsByte c := by
  induction n with
  | zero => intro c hc; cases hc
  | succ n ih =>
    intro c hc
    rcases List.mem_cons.1 hc with rfl | hc
    · unfold IsByte; omega
    · exact ih c hc
theorem emod_digit (a p : Int) (hp : 0 < p) : a % (p * 256) = p * (a / p % 256) + a % p := by
  have h1 := Int.mul_ediv_add_emod a p
  have h2 := Int.mul_ediv_add_emod (a / p) 256
  have hr0 := Int.emod_nonneg a (show p ≠ 0 by omega)
  have hr1 := Int.emod_lt_of_pos a hp
  have hd0 : 0 ≤ a / p % 256 := by omega
  have hd1 : a / p % 256 ≤ 255 := by omega
  have e : a = p * 256 * (a / p / 256) + (p * (a / p % 256) + a % p) := by
    have h3 : p * (256 * (a / p / 256) + a / p % 256) = p * (a / p) := by rw [h2]
    rw [Int.mul_add, ← Int.mul_assoc] at h3
    omega
  have hb : p * (a / p % 256) ≤ p * 255 := Int.mul_le_mul_of_nonneg_left hd1 (by omega)
  have hb0 : 0 ≤ p * (a / p % 256) := Int.mul_nonneg (by omega) hd0
  conv => lhs; rw [e]
  rw [Int.mul_add_emod_self_left, Int.emod_eq_of_lt (by omega) (by omega)]
theorem digit_lt (p d1 r1 d2 r2 : Int) (hp : 0 < p) (a1 : 0 ≤ r1) (a2 : r1 < p) (b1 : 0 ≤ r2) (b2 : r2 < p) : p * d1 + r1 < p * d2 + r2 ↔ d1 < d2 ∨ (d1 = d2 ∧ r1 < r2) := by
  rcases Int.lt_trichotomy d1 d2 with h | h | h
  · have := Int.mul_le_mul_of_nonneg_left (show d1 + 1 ≤ d2 by omega) (show 0 ≤ p by omega)
    rw [Int.mul_add, Int.mul_one] at this
    constructor
    · intro _; exact .inl h
    · intro _; omega
  · subst h
    constructor
    · intro h; exact .inr ⟨rfl, by omega⟩
    · rintro (h | ⟨_, h⟩) <;> omega
  · have := Int.mul_le_mul_of_nonneg_left (show d2 + 1 ≤ d1 by omega) (show 0 ≤ p by omega)
    rw [Int.mul_add, Int.mul_one] at this
    constructor
    · intro _; omega
    · rintro (h2 | ⟨h2, _⟩) <;> omega
theorem digit_eq (p d1 r1 d2 r2 : Int) (hp : 0 < p) (a1 : 0 ≤ r1) (a2 : r1 < p) (b1 : 0 ≤ r2) (b2 : r2 < p) : p * d1 + r1 = p * d2 + r2 ↔ d1 = d2 ∧ r1 = r2 := by
  have h1 := digit_lt p d1 r1 d2 r2 hp a1 a2 b1 b2
  have h2 := digit_lt p d2 r2 d1 r1 hp b1 b2 a1 a2
  constructor
  · intro h
    have n1 : ¬ (d1 < d2 ∨ (d1 = d2 ∧ r1 < r2)) := fun x => by have := h1.2 x; omega
    have n2 : ¬ (d2 < d1 ∨ (d2 = d1 ∧ r2 < r1)) := fun x => by have := h2.2 x; omega
    omega
  · rintro ⟨rfl, rfl⟩; rfl
theorem be_cmp (n : Nat) (a b : Int) : Op.bytesLess ((beN n a).map fun n => UInt8.ofNat n.toNat) ((beN n b).map fun n => UInt8.ofNat n.toNat) = decide (a % 256 ^ n < b % 256 ^ n) ∧ (((beN n a).map fun n => UInt8.ofNat n.toNat) = ((beN n b).map fun n => UInt8.ofNat n.toNat) ↔ a % 256 ^ n = b % 256 ^ n) := by
  induction n with
  | zero => simp [beN, Op.bytesLess, Int.emod_one]
  | succ n ih =>
    have hp : (0 : Int) < 256 ^ n := Int.pow_pos (by decide)
    have ea := emod_digit a (256 ^ n) hp
    have eb := emod_digit b (256 ^ n) hp
    rw [← Int.pow_succ] at ea eb
    have ba : IsByte (a / 256 ^ n % 256) := by unfold IsByte; omega
    have bb : IsByte (b / 256 ^ n % 256) := by unfold IsByte; omega
    have ra := Int.emod_nonneg a (show (256 : Int) ^ n ≠ 0 by omega)
    have ra1 := Int.emod_lt_of_pos a hp
    have rb := Int.emod_nonneg b (show (256 : Int) ^ n ≠ 0 by omega)
    have rb1 := Int.emod_lt_of_pos b hp
    constructor
    · simp only [beN, List.map_cons, Op.bytesLess]
      rw [ih.1, ea, eb, Bool.eq_iff_iff]
      simp only [Bool.or_eq_true, Bool.and_eq_true, decide_eq_true_eq, beq_iff_eq, u8_lt _ _ ba bb, u8_eq _ _ ba bb]
      exact (digit_lt _ _ _ _ _ hp ra ra1 rb rb1).symm
    · simp only [beN, List.map_cons, List.cons.injEq]
      rw [ih.2, u8_eq _ _ ba bb, ea, eb]
      exact (digit_eq _ _ _ _ _ hp ra ra1 rb rb1).symm
theorem pow8 : (256 : Int) ^ 8 = top64 := by decide
theorem WireOrder.walk (a0 a1 : Int) (w : World) (w0 : (Lit.int .u64 a0).wf = true) (w1 : (Lit.int .u64 a1).wf = true) :
    Calls Try.prog 4 #[.int .u64 a0, .int .u64 a1] w fun e w' => e = .returned (.bool true) ∧ Below w.heap.size w w' := by
  obtain ⟨h1, h2⟩ := wf_u64 a0 w0
  obtain ⟨h3, h4⟩ := wf_u64 a1 w1
  have hc := be_cmp 8 a0 a1
  rw [pow8, Int.emod_eq_of_lt h1 h2, Int.emod_eq_of_lt h3 h4] at hc
  refine order_any a0 a1 w h1 h2 h3 h4 ?_ ?_ ?_
  · rw [strOf_list, strOf_list]; exact hc.1
  · rw [strOf_list, strOf_list, Bool.eq_iff_iff, beq_iff_eq, beq_iff_eq]; exact hc.2
  · simp [strOfNums, ByteArray.size, beN_length]
theorem WireBounds.walk (a0 : Option Addr) (len0 cap0 : Nat) (z0 : List Int) (w : World) (w0 : (a0 = none ∧ len0 = 0 ∧ cap0 = 0 ∧ z0 = []) ∨ ∃ x, a0 = some x ∧ len0 ≤ cap0 ∧ cap0 ≤ maxLen ∧ z0.length = cap0 ∧ (∀ i, i < z0.length → w.cell? (x.add i) = some (.int .u8 (z0.getD i 0))) ∧ ∀ n ∈ z0, (Lit.int .u8 n).wf = true) (y0 : len0 * 1 ≤ 140737488351232) :
    Calls Try.prog 3 #[.slice a0 len0 cap0] w fun e w' => e = .returned (.bool true) ∧ Below w.heap.size w w' := by
  obtain ⟨l0, rfl, hr0, hm0, hw0, hc0⟩ := ReadsInt.ofRowC w0
  exact bounds_any a0 cap0 l0 w (Kd.C_of_reads (d := (0 : Int)) (h1 := fun _ => rfl) hr0) (fun c hc => wf_byte c (hw0 c hc))
end Go.Proofs.Ytbiidbiammppiaa.Ext
