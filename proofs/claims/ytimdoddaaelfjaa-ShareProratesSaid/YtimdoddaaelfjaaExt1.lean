/- Contracts of math/bits.Mul64 and of money.size, Mul, Sum, Add, proved by walking their code. -/
import Derived.Test.YtimdoddaaelfjaaProg
import Derived.Test.YtimdoddaaelfjaaH
import Derived.WalkKit
import Derived.KernelRfl
import Derived.IntWalk
import Derived.Laws.Bits64b
import Derived.Laws.Externs
import Derived.Lib.Mul64
namespace Go.Proofs.Ytimdoddaaelfjaa.Ext
open Go.RowKit Go.Proofs.YtimdoddaaelfjaaW.PrintWords Go.Proofs.YtimdoddaaelfjaaW.PrintLast Go.Proofs.YtimdoddaaelfjaaW.PrintMore Go.Proofs.YtimdoddaaelfjaaW.Hand
set_option linter.unusedVariables false

def I64 (a : Int) : Prop := -9223372036854775808 ≤ a ∧ a < 9223372036854775808
instance (a : Int) : Decidable (I64 a) := by unfold I64; infer_instance
namespace M64
theorem maskN (a : Nat) (ha : a < 18446744073709551616) : bits .and .u64 (a : Int) 4294967295 = ((a % 4294967296 : Nat) : Int) := by
  have h := bits_and_u64_nat a 4294967295 ha (by omega)
  have e : a &&& 4294967295 = a % 4294967296 := Nat.and_two_pow_sub_one_eq_mod a 32
  rw [e] at h
  exact h
theorem divN (a : Nat) : (a : Int) / 4294967296 = ((a / 4294967296 : Nat) : Int) := by omega
theorem mulN (a b : Nat) : (a : Int) * (b : Int) = ((a * b : Nat) : Int) := (Int.natCast_mul a b).symm
theorem addN (a b : Nat) : (a : Int) + (b : Int) = ((a + b : Nat) : Int) := (Int.natCast_add a b).symm
theorem wrapN (a : Nat) (ha : a < 18446744073709551616) : IntKind.u64.wrap (a : Int) = (a : Int) := by rw [IntKind.wrap_u64]; omega
theorem wrapM (a : Nat) : IntKind.u64.wrap (a : Int) = ((a % 18446744073709551616 : Nat) : Int) := by rw [IntKind.wrap_u64]; omega
end M64
set_option maxHeartbeats 1000000 in
theorem Mul64_any (x y : Nat) (hx : x < 18446744073709551616) (hy : y < 18446744073709551616) (w : World) :
    Calls Try.prog 25 #[.int .u64 x, .int .u64 y] w fun e w' => e = .returned (.tuple #[.int .u64 ((x * y / 18446744073709551616 : Nat) : Int), .int .u64 ((x * y % 18446744073709551616 : Nat) : Int)]) ∧ w' = w := by
  obtain ⟨bd, bt, bw, hhi⟩ := Lib.mul64_hi x y hx hy
  have ba := Lib.half_mul_le (a := x / 4294967296) (b := y / 4294967296) (by omega) (by omega)
  have bb := Lib.half_mul_le (a := x / 4294967296) (b := y % 4294967296) (by omega) (by omega)
  have bc := Lib.half_mul_le (a := x % 4294967296) (b := y / 4294967296) (by omega) (by omega)
  have ba' : x / 4294967296 * (y / 4294967296) < 18446744073709551616 := by omega
  have bb' : x / 4294967296 * (y % 4294967296) < 18446744073709551616 := by omega
  have bc' : x % 4294967296 * (y / 4294967296) < 18446744073709551616 := by omega
  have bh1 : x / 4294967296 * (y / 4294967296) + (x / 4294967296 * (y % 4294967296) + x % 4294967296 * (y % 4294967296) / 4294967296) / 4294967296 < 18446744073709551616 := by omega
  have bh : x / 4294967296 * (y / 4294967296) + (x / 4294967296 * (y % 4294967296) + x % 4294967296 * (y % 4294967296) / 4294967296) / 4294967296 + ((x / 4294967296 * (y % 4294967296) + x % 4294967296 * (y % 4294967296) / 4294967296) % 4294967296 + x % 4294967296 * (y / 4294967296)) / 4294967296 < 18446744073709551616 := by omega
  go_enter Try.func25, Try.ntmps25
  go_wp2
  simp only [M64.maskN x hx, M64.maskN y hy, M64.divN, M64.mulN, M64.addN, M64.wrapN _ bd, M64.wrapN _ bb', M64.wrapN _ bt, M64.maskN _ bt, M64.wrapN _ bc', M64.wrapN _ bw, M64.wrapN _ ba', M64.wrapN _ bh1, M64.wrapN _ bh, M64.wrapM (x * y)]
  rw [hhi]
  go_ret2
  exact ⟨rfl, rfl⟩
/-- An answer of 64 bits, or none. -/
def small (a : Int) : Int × Int := if I64 a then (a, 0) else (0, 30)
def money_Mul.f (a b : Int) : Option (Int × Int) := if I64 a ∧ I64 b then some (small (a * b)) else none
theorem natAbs_mul_cases (a b : Int) : ((a < 0 ↔ b < 0) → a * b = (a.natAbs * b.natAbs : Nat)) ∧ (¬ (a < 0 ↔ b < 0) → a * b = -(a.natAbs * b.natAbs : Nat)) := by
  have key : (a * b).natAbs = a.natAbs * b.natAbs := Int.natAbs_mul a b
  rw [← key]
  constructor
  · intro h
    have : 0 ≤ a * b := by
      by_cases ha : a < 0
      · exact Int.mul_nonneg_of_nonpos_of_nonpos (by omega) (by have := h.1 ha; omega)
      · exact Int.mul_nonneg (by omega) (by have : ¬ b < 0 := fun hb => ha (h.2 hb); omega)
    omega
  · intro h
    have : a * b ≤ 0 := by
      by_cases ha : a < 0
      · exact Int.mul_nonpos_of_nonpos_of_nonneg (by omega) (by have : ¬ b < 0 := fun hb => h ⟨fun _ => hb, fun _ => ha⟩; omega)
      · exact Int.mul_nonpos_of_nonneg_of_nonpos (by omega) (by have : b < 0 := by
                                                                   by_cases hb : b < 0
                                                                   · exact hb
                                                                   · exact absurd ⟨fun h => absurd h ha, fun h => absurd h hb⟩ h
                                                                omega)
    omega
theorem Add64_any (x y c : Nat) (hc : c ≤ 1) (w : World) :
    (callFunc 24 #[.int .u64 x, .int .u64 y, .int .u64 c]).run Try.prog w =
      .ok (.value (.tuple #[.int .u64 (((x + y + c) % 18446744073709551616 : Nat) : Int), .int .u64 (((x + y + c) / 18446744073709551616 : Nat) : Int)])) w := by
  rw [run_callFunc_extern Try.func24 (by kernel_rfl) (by kernel_rfl) (by kernel_rfl) (e := add64Entry) (by kernel_rfl), run_add64 x y c (by omega) (by omega) (by omega) (by omega)]
  simp only [Result.andThen]
  congr 5 <;> omega
/-- A number modulo 2^128, as two of 64 bits. -/
def lo64 (s : Int) : Nat := (s % 18446744073709551616).toNat
def hi64 (s : Int) : Nat := (s / 18446744073709551616 % 18446744073709551616).toNat
def money_Sum.f (l : List Int) : Option (Int × Int) := if (∀ a ∈ l, I64 a) ∧ l.length ≤ 9223372036854775807 then some (small l.sum) else none
theorem take_one {α : Type} (l : List α) (d : α) (j : Nat) (h : j < l.length) : l.take (j + 1) = l.take j ++ [l.getD j d] := by
  rw [List.take_succ_eq_append_getElem h]; simp [List.getD_eq_getElem?_getD, List.getElem?_eq_getElem h]
theorem sum_take_one (l : List Int) (j : Nat) (h : j < l.length) : (l.take (j + 1)).sum = (l.take j).sum + rd l j := by
  rw [take_one l 0 j h]; simp [rd]
theorem sum_step (s a : Int) (ha : I64 a) :
    lo64 (s + a) = (lo64 s + (a % 18446744073709551616).toNat + 0) % 18446744073709551616 ∧
    hi64 (s + a) = (hi64 s + ((a / 9223372036854775808) % 18446744073709551616).toNat + (lo64 s + (a % 18446744073709551616).toNat + 0) / 18446744073709551616) % 18446744073709551616 := by
  unfold lo64 hi64
  unfold I64 at ha
  omega
theorem rd_mem (l : List Int) (j : Nat) (h : j < l.length) : rd l j ∈ l := by
  simp only [rd, Int.toNat_natCast, List.getD_eq_getElem?_getD, List.getElem?_eq_getElem h, Option.getD_some]
  exact List.getElem_mem h
theorem sum_small (l : List Int) (h : ∀ a ∈ l, I64 a) : -(l.length * 9223372036854775808 : Int) ≤ l.sum ∧ l.sum ≤ l.length * 9223372036854775808 := by
  induction l with
  | nil => simp
  | cons a l ih =>
    have h1 := h a (by simp)
    have h2 := ih (fun x hx => h x (by simp [hx]))
    unfold I64 at h1
    simp only [List.sum_cons, List.length_cons, Int.natCast_add, Int.natCast_one]
    omega
theorem sum_ends (s : Int) (h1 : -85070591730234615865843651857942052864 ≤ s) (h2 : s ≤ 85070591730234615865843651857942052864)
    (h : (wrap64 (lo64 s : Int) / 9223372036854775808) % 18446744073709551616 = (hi64 s : Int)) : I64 s := by
  have e1 : (lo64 s : Int) = s % 18446744073709551616 := by unfold lo64; omega
  have e2 : (hi64 s : Int) = s / 18446744073709551616 % 18446744073709551616 := by unfold hi64; omega
  rw [e1, e2] at h
  unfold wrap64 at h
  clear e1 e2
  have d := Int.emod_add_mul_ediv s 18446744073709551616
  generalize hR : s % 18446744073709551616 = R at *
  generalize hQ : s / 18446744073709551616 = Q at *
  have r1 : 0 ≤ R := by omega
  have r2 : R < 18446744073709551616 := by omega
  clear hR hQ
  have q1 : -4611686018427387905 ≤ Q := by omega
  have q2 : Q ≤ 4611686018427387905 := by omega
  unfold I64
  by_cases hr : R < 9223372036854775808
  · rw [show ((R + 9223372036854775808) % 18446744073709551616 - 9223372036854775808) = R by omega, show R / 9223372036854775808 = 0 by omega] at h
    omega
  · rw [show ((R + 9223372036854775808) % 18446744073709551616 - 9223372036854775808) = R - 18446744073709551616 by omega, show (R - 18446744073709551616) / 9223372036854775808 = -1 by omega] at h
    omega
set_option maxRecDepth 100000 in
set_option maxHeartbeats 3200000 in
theorem money_Sum.calls (A0 : Option Addr) (c0 : Nat) (l0 : List Int) (r1 r2 : Int) (w : World) (hr0 : Kd.C (Kd.int .i64) w A0 l0.length l0) (hc0 : l0.length ≤ c0) (h : money_Sum.f l0 = some (r1, r2)) :
    Calls Try.prog 14 #[.slice A0 l0.length c0] w fun e w' => e = .returned (.tuple #[.int .i64 r1, .int .i64 r2]) ∧ Drawn0 w w' := by
  unfold money_Sum.f at h
  split at h
  case isFalse => cases h
  case isTrue hab =>
  obtain ⟨hall, hlen⟩ := hab
  have hs := Option.some.inj h
  have HS := Aside0.mk hs
  have HR0 := Aside0.mk hr0
  have HALL := Aside0.mk hall
  clear h hs hr0 hc0 hall
  go_enter Try.func14, Try.ntmps14
  go_wp2
  go_loop [4, 5, 12] (fun h v i => ∃ k : Nat, k ≤ l0.length ∧ i = .int .i64 k ∧ h = .int .u64 (hi64 (l0.take k).sum) ∧ v = .int .u64 (lo64 (l0.take k).sum)) (fun _ _ i => l0.length - (intOf i).toNat)
  case atStart => exact ⟨0, by omega, rfl, rfl, rfl⟩
  case round =>
    obtain ⟨k, hk, rfl, rfl, rfl⟩ := hrel
    by_cases hlt : k < l0.length
    · obtain ⟨ad1, e1, hx1⟩ := Kd.at_int HR0.out k (by omega) (by omega)
      cases e1
      simp only [Int.toNat_natCast] at hx1
      obtain ⟨a, HA⟩ : ∃ a, Aside0 (a = rd l0 k) := ⟨_, ⟨rfl⟩⟩
      rw [← HA.out] at hx1
      have ha : I64 a := by rw [HA.out]; exact HALL.out _ (rd_mem l0 k hlt)
      have st := sum_step (l0.take k).sum a ha
      have HST : Aside0 ((l0.take (k + 1)).sum = (l0.take k).sum + a) := ⟨by rw [HA.out]; exact sum_take_one l0 k hlt⟩
      obtain ⟨x, hx⟩ : ∃ x, (a % 18446744073709551616).toNat = x := ⟨_, rfl⟩
      obtain ⟨y, hy⟩ : ∃ y, ((a / 9223372036854775808) % 18446744073709551616).toNat = y := ⟨_, rfl⟩
      rw [hx, hy] at st
      have wx : IntKind.u64.wrap a = (x : Int) := by rw [IntKind.wrap_u64]; omega
      have wy : IntKind.u64.wrap (a / 9223372036854775808) = (y : Int) := by rw [IntKind.wrap_u64]; omega
      obtain ⟨s, hs⟩ : ∃ s, (l0.take k).sum = s := ⟨_, rfl⟩
      rw [hs] at st HST
      rw [hs]
      have k1 : ∀ w, (callFunc 24 #[.int .u64 (lo64 s), .int .u64 x, .int .u64 0]).run Try.prog w =
          .ok (.value (.tuple #[.int .u64 (lo64 (s + a)), .int .u64 (((lo64 s + x + 0) / 18446744073709551616 : Nat) : Int)])) w := fun w => by
        have := Add64_any (lo64 s) x 0 (by omega) w
        rw [← st.1] at this
        exact this
      have hl : lo64 s < 18446744073709551616 := by unfold lo64; omega
      have k2 : ∀ w, (callFunc 24 #[.int .u64 (hi64 s), .int .u64 y, .int .u64 (((lo64 s + x + 0) / 18446744073709551616 : Nat) : Int)]).run Try.prog w =
          .ok (.value (.tuple #[.int .u64 (hi64 (s + a)), .int .u64 (((hi64 s + y + (lo64 s + x + 0) / 18446744073709551616) / 18446744073709551616 : Nat) : Int)])) w := fun w => by
        have := Add64_any (hi64 s) y ((lo64 s + x + 0) / 18446744073709551616) (by omega) w
        rw [← st.2] at this
        exact this
      generalize (lo64 s + x + 0) / 18446744073709551616 = c at *
      generalize (hi64 s + y + c) / 18446744073709551616 = d at *
      generalize hlo : lo64 s = lo at *
      generalize hhi : hi64 s = hi at *
      obtain ⟨lo', HLO⟩ : ∃ n, Aside0 (lo64 (s + a) = n) := ⟨_, ⟨rfl⟩⟩
      obtain ⟨hi', HHI⟩ : ∃ n, Aside0 (hi64 (s + a) = n) := ⟨_, ⟨rfl⟩⟩
      rw [HLO.out] at k1
      rw [HHI.out] at k2
      clear st hl hlo hhi hx hy hs ha
      go_wp2_with (simp only [k1, k2])
      go_round
      case rel => exact ⟨k + 1, by omega, by go_num, by rw [HST.out, HHI.out], by rw [HST.out, HLO.out]⟩
      case measure => simp [intOf]; omega
    · obtain rfl : k = l0.length := by omega
      rw [List.take_length] at *
      have hb := sum_small l0 HALL.out
      obtain ⟨q, hq⟩ : ∃ q : Int, wrap64 (lo64 l0.sum : Int) = q := ⟨_, rfl⟩
      obtain ⟨z, hz⟩ : ∃ z : Int, IntKind.u64.wrap (q / 9223372036854775808) = z := ⟨_, rfl⟩
      generalize l0.sum = s at *
      have e3 := HS.out
      by_cases hi : I64 s
      · have e4 : q = s := by rw [← hq]; unfold wrap64 lo64; unfold I64 at hi; omega
        have e5 : z = (hi64 s : Int) := by rw [← hz, e4, IntKind.wrap_u64]; unfold hi64; unfold I64 at hi; omega
        have hne : ((hi64 s : Int) != z) = false := by rw [bne_eq_false_iff_eq]; exact e5.symm
        rw [small, if_pos hi] at e3
        obtain ⟨rfl, rfl⟩ := Prod.mk.inj e3
        clear e3 e5 hi hb HS HALL HR0
        generalize hi64 s = hi at *
        generalize lo64 s = lo at *
        subst e4
        go_wp2
        go_ret2
        exact ⟨rfl, Drawn0.refl _⟩
      · have e5 : z ≠ (hi64 s : Int) := by
          rw [← hz, IntKind.wrap_u64, ← hq]
          exact fun h => hi (sum_ends s (by omega) (by omega) h)
        have hne : ((hi64 s : Int) != z) = true := by rw [bne_iff_ne]; exact e5.symm
        rw [small, if_neg hi] at e3
        obtain ⟨rfl, rfl⟩ := Prod.mk.inj e3
        clear e3 e5 hi hb HS HALL HR0
        generalize hi64 s = hi at *
        generalize lo64 s = lo at *
        go_wp2
        go_ret2
        exact ⟨rfl, Drawn0.refl _⟩
def money_Add.f (a b : Int) : Option (Int × Int) := if I64 a ∧ I64 b then some (small (a + b)) else none
end Go.Proofs.Ytimdoddaaelfjaa.Ext
