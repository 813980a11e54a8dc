/- The contract of quitrentref02.Check, proved by walking its code. -/
import Derived.Test.YtddajglkefpjdaaCrc2
namespace Go.Proofs.Ytddajglkefpjdaa.Ext
open Go.RowKit Go.Proofs.YtddajglkefpjdaaW.PrintWords Go.Proofs.YtddajglkefpjdaaW.PrintLast Go.Proofs.YtddajglkefpjdaaW.PrintMore
set_option linter.unusedVariables false

/-- One bit into the register, as the reference says it. -/
def refBit (n : Nat) (bit : Nat) : Nat := if n % 2 = bit then n / 2 else (n / 2) ^^^ 2197175160
def refBits : Nat → Nat → Nat → Nat
  | 0, n, _ => n
  | k + 1, n, c => refBit (refBits k n c) (c / 2 ^ k % 2)
def refByte (n : Nat) (c : Int) : Nat := refBits 8 n (c % 4294967296).toNat
def refBytes (n : Nat) (l : List Int) : Nat := l.foldl refByte n
def quitrentref02_Check.f (l0 : List Int) : Option Int := some (4294967295 - (refBytes 4294967295 l0 : Nat) : Int)
theorem refBit_lt (n bit : Nat) (h : n < 4294967296) : refBit n bit < 4294967296 := by
  unfold refBit
  split
  · omega
  · exact Nat.xor_lt_two_pow (n := 32) (by omega) (by omega)
theorem refBits_lt (k n c : Nat) (h : n < 4294967296) : refBits k n c < 4294967296 := by
  induction k with
  | zero => exact h
  | succ k ih => exact refBit_lt _ _ ih
theorem refBytes_one (n : Nat) (l : List Int) (j : Nat) (h : j < l.length) : refBytes n (l.take (j + 1)) = refByte (refBytes n (l.take j)) (rd l j) := by
  rw [take_one l 0 j h]; simp [refBytes, rd]
-- HERE
set_option maxHeartbeats 3200000 in
theorem quitrentref02_Check.calls (A0 : Option Addr) (c0 : Nat) (l0 : List Int) (r : Int) (w : World) (hr0 : Kd.C (Kd.int .u8) w A0 l0.length l0) (hc0 : l0.length ≤ c0) (h : quitrentref02_Check.f l0 = some r) :
    Calls Try.prog 19 #[.slice A0 l0.length c0] w fun e w' => e = .returned (.int .u32 r) ∧ Drawn0 w w' := by
  have HR0 := Aside0.mk hr0
  clear hr0 hc0
  have H := Aside0.mk (Option.some.inj h)
  clear h
  have hmax := Kd.C_max HR0.out
  go_enter Try.func19, Try.ntmps19
  go_wp2
  go_loop [3, 4] (fun v i => ∃ k : Nat, ∃ n : Nat, k ≤ l0.length ∧ n < 4294967296 ∧ i = .int .i64 k ∧ v = .int .u32 (n : Int) ∧ Aside0 (n = refBytes 4294967295 (l0.take k))) (fun _ i => l0.length - (intOf i).toNat)
  case atStart => exact ⟨0, 4294967295, by omega, by omega, rfl, rfl, ⟨by simp [refBytes]⟩⟩
  case round =>
    obtain ⟨k, n, hk, hn, rfl, rfl, HN⟩ := hrel
    by_cases hlt : k < l0.length
    · obtain ⟨ad1, e1, hx1⟩ := Kd.at_int HR0.out k (by omega) (by omega)
      cases e1
      simp only [Int.toNat_natCast] at hx1
      obtain ⟨c, HC⟩ : ∃ c, Aside0 (c = rd l0 k) := ⟨_, ⟨rfl⟩⟩
      rw [← HC.out] at hx1
      go_wp2
      go_loop [3, 5] (fun v i => ∃ j : Nat, ∃ m : Nat, j ≤ 8 ∧ m < 4294967296 ∧ i = .int .i64 j ∧ v = .int .u32 (m : Int) ∧ Aside0 (m = refBits j n (c % 4294967296).toNat)) (fun _ i => 8 - (intOf i).toNat)
      case atStart => exact ⟨0, n, by omega, hn, rfl, rfl, ⟨by simp [refBits]⟩⟩
      case round =>
        obtain ⟨j, m, hj, hm, rfl, rfl, HM⟩ := hrel
        by_cases hlt1 : j < 8
        · obtain ⟨q, HQ⟩ : ∃ q, Aside0 (q = (c % 4294967296).toNat / 2 ^ j) := ⟨_, ⟨rfl⟩⟩
          have hq : c % 4294967296 / 2 ^ j = (q : Int) := by
            rw [HQ.out, Int.natCast_ediv, Int.toNat_of_nonneg (by omega)]; simp
          by_cases hb : m % 2 = q % 2
          · have hbb : ((m : Int) % 2 != (q : Int) % 2) = false := by rw [bne_eq_false_iff_eq]; omega
            have HB := Aside0.mk hb
            clear hb
            go_wp2
            go_round
            case rel => exact ⟨j + 1, m / 2, by omega, by omega, by go_num, by go_num, ⟨by rw [refBits, ← HM.out, refBit, ← HQ.out, if_pos HB.out]⟩⟩
            case measure => simp [intOf]; omega
          · have hbb : ((m : Int) % 2 != (q : Int) % 2) = true := by rw [bne_iff_ne]; omega
            have hx : Go.bits .xor .u32 ((m : Int) / 2) 2197175160 = ((m / 2 ^^^ 2197175160 : Nat) : Int) := by
              have := u32_xor_nat (m / 2) 2197175160 (by omega) (by omega)
              rw [← this]; congr 1
            have HX := Aside0.mk hx
            have HB := Aside0.mk hb
            clear hb hx
            go_wp2
            go_round
            case rel => exact ⟨j + 1, (m / 2) ^^^ 2197175160, by omega, Nat.xor_lt_two_pow (n := 32) (by omega) (by omega), by go_num, by rw [HX.out], ⟨by rw [refBits, ← HM.out, refBit, ← HQ.out, if_neg HB.out]⟩⟩
            case measure => simp [intOf]; omega
        · obtain rfl : j = 8 := by omega
          go_wp2
          go_round
          case rel => exact ⟨k + 1, m, by omega, hm, by go_num, rfl, ⟨by rw [refBytes_one _ _ _ hlt, ← HN.out, ← HC.out, HM.out]; rfl⟩⟩
          case measure => simp [intOf]; omega
    · obtain rfl : k = l0.length := by omega
      have sg : IntKind.u32.signed = false := rfl
      have nt := u32_not n hn
      go_wp2
      go_ret
      exact ⟨by have h1 := HN.out; rw [List.take_length] at h1; rw [← H.out, ← h1]; rfl, Drawn0.refl _⟩
end Go.Proofs.Ytddajglkefpjdaa.Ext
