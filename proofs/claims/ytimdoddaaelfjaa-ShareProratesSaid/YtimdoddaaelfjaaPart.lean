/- The contracts of money.Part and of goes, proved by walking their code. -/
import Derived.Test.YtimdoddaaelfjaaDiv
import Derived.OwnWalk
namespace Go.Proofs.Ytimdoddaaelfjaa.Ext
open Go.RowKit Go.Proofs.YtimdoddaaelfjaaW.PrintWords Go.Proofs.YtimdoddaaelfjaaW.PrintLast Go.Proofs.YtimdoddaaelfjaaW.PrintMore Go.Proofs.YtimdoddaaelfjaaW.Hand
set_option linter.unusedVariables false
theorem dlt (q : Nat) (h : q < 9223372036854775808) : decide ((9223372036854775808 : Int) ≤ q) = false := by rw [decide_eq_false_iff_not]; omega
theorem dge (q : Nat) (h : ¬ q < 9223372036854775808) : decide ((9223372036854775808 : Int) ≤ q) = true := by rw [decide_eq_true_iff]; omega
def part (a b d : Int) : Int × Int × Int :=
  if a < 0 ∨ b < 0 ∨ d < 1 then (0, 0, 1) else if a * b / d < 9223372036854775808 then (a * b / d, a * b % d, 0) else (0, 0, 30)
def money_Part.f (a b d : Int) : Option (Int × Int × Int) := if I64 a ∧ I64 b ∧ I64 d then some (part a b d) else none
set_option maxRecDepth 100000 in
set_option maxHeartbeats 3200000 in
theorem money_Part.calls (a b d r1 r2 r3 : Int) (w : World) (h : money_Part.f a b d = some (r1, r2, r3)) :
    Calls Try.prog 15 #[.int .i64 a, .int .i64 b, .int .i64 d] w fun e w' => e = .returned (.tuple #[.int .i64 r1, .int .i64 r2, .int .i64 r3]) ∧ Drawn0 w w' := by
  unfold money_Part.f at h
  split at h
  case isFalse => cases h
  case isTrue hab =>
  obtain ⟨ha, hb, hd⟩ := hab
  have hs := Option.some.inj h
  clear h
  unfold part at hs
  by_cases ca : a < 0
  · rw [if_pos (.inl ca)] at hs
    simp only [Prod.mk.injEq] at hs
    obtain ⟨rfl, rfl, rfl⟩ := hs
    clear ha hb hd
    go_enter Try.func15, Try.ntmps15
    go_wp2
    go_ret3
    exact ⟨rfl, Drawn0.refl _⟩
  by_cases cb : b < 0
  · rw [if_pos (.inr (.inl cb))] at hs
    simp only [Prod.mk.injEq] at hs
    obtain ⟨rfl, rfl, rfl⟩ := hs
    clear ha hb hd
    go_enter Try.func15, Try.ntmps15
    go_wp2
    go_ret3
    exact ⟨rfl, Drawn0.refl _⟩
  by_cases cd : d < 1
  · rw [if_pos (.inr (.inr cd))] at hs
    simp only [Prod.mk.injEq] at hs
    obtain ⟨rfl, rfl, rfl⟩ := hs
    clear ha hb hd
    go_enter Try.func15, Try.ntmps15
    go_wp2
    go_ret3
    exact ⟨rfl, Drawn0.refl _⟩
  rw [if_neg (by omega)] at hs
  unfold I64 at ha hb hd
  obtain ⟨x, rfl⟩ := Int.eq_ofNat_of_zero_le (show 0 ≤ a by omega)
  obtain ⟨y, rfl⟩ := Int.eq_ofNat_of_zero_le (show 0 ≤ b by omega)
  obtain ⟨z, rfl⟩ := Int.eq_ofNat_of_zero_le (show 0 ≤ d by omega)
  have hx : x < 18446744073709551616 := by omega
  have hy : y < 18446744073709551616 := by omega
  have hz : z < 18446744073709551616 := by omega
  have ux := wrapU x hx
  have uy := wrapU y hy
  have uz := wrapU z hz
  have e1 : (x : Int) * y / z = ((x * y / z : Nat) : Int) := by simp
  have e2 : (x : Int) * y % z = ((x * y % z : Nat) : Int) := by simp
  rw [e1, e2] at hs
  have k1 := Aside0.mk (fun w => Mul64_any x y hx hy w)
  have hp : x * y = x * y / 18446744073709551616 * 18446744073709551616 + x * y % 18446744073709551616 := by omega
  have hl : x * y % 18446744073709551616 < 18446744073709551616 := Nat.mod_lt _ (by omega)
  have k2 : Aside0 (x * y / 18446744073709551616 < z → ∀ w, Calls Try.prog 26 #[.int .u64 ((x * y / 18446744073709551616 : Nat) : Int), .int .u64 ((x * y % 18446744073709551616 : Nat) : Int), .int .u64 z] w fun e w' =>
      e = .returned (.tuple #[.int .u64 (x * y / z : Nat), .int .u64 (x * y % z : Nat)]) ∧ Drawn0 w w') := ⟨fun h w => by
    have := Div64_any (x * y / 18446744073709551616) (x * y % 18446744073709551616) z h hl hz w
    rw [← hp] at this
    exact this⟩
  have hz0 : 0 < z := by omega
  have hbig : z ≤ x * y / 18446744073709551616 → 18446744073709551616 ≤ x * y / z := fun h => by
    rw [Nat.le_div_iff_mul_le hz0]
    have := Nat.mul_le_mul_left 18446744073709551616 h
    omega
  have hr : x * y % z < z := Nat.mod_lt _ hz0
  generalize x * y / 18446744073709551616 = hi at *
  generalize x * y % 18446744073709551616 = lo at *
  generalize x * y / z = q at *
  generalize x * y % z = r at *
  clear e1 e2 hp
  by_cases hh : hi < z
  · have k2 := Aside0.mk (k2.out hh)
    have t1 : ¬ z ≤ hi := by omega
    by_cases hq : q < 9223372036854775808
    · rw [if_pos (by omega)] at hs
      simp only [Prod.mk.injEq] at hs
      obtain ⟨rfl, rfl, rfl⟩ := hs
      have t2 : ¬ 9223372036854775808 ≤ q := by omega
      have w1 : wrap64 (q : Int) = q := by unfold wrap64; omega
      have w2 : wrap64 (r : Int) = r := by unfold wrap64; omega
      have t3 := dlt q hq
      have c1 : ¬ (z : Int) < 1 := cd
      clear ha hb hd hbig hr hl hz0 hx hy hz hh hq
      go_enter Try.func15, Try.ntmps15
      go_wp2_with fail
      refine (k1.out _).mono ?_
      rintro e w3 ⟨rfl, rfl⟩
      go_wp2_with fail
      refine (k2.out _).mono ?_
      rintro e w3 ⟨rfl, hd⟩
      have hd := Aside0.mk hd
      go_wp2
      go_ret3
      exact ⟨by rw [w2]; rfl, hd.out⟩
    · rw [if_neg (by omega)] at hs
      simp only [Prod.mk.injEq] at hs
      obtain ⟨rfl, rfl, rfl⟩ := hs
      have t3 := dge q hq
      clear ha hb hd hbig hr hl hz0 hx hy hz hh hq
      go_enter Try.func15, Try.ntmps15
      go_wp2_with fail
      refine (k1.out _).mono ?_
      rintro e w3 ⟨rfl, rfl⟩
      go_wp2_with fail
      refine (k2.out _).mono ?_
      rintro e w3 ⟨rfl, hd⟩
      have hd := Aside0.mk hd
      go_wp2
      go_ret3
      exact ⟨rfl, hd.out⟩
  · have t1 : z ≤ hi := by omega
    have := hbig t1
    rw [if_neg (by omega)] at hs
    simp only [Prod.mk.injEq] at hs
    obtain ⟨rfl, rfl, rfl⟩ := hs
    clear ha hb hd hbig hr hl hz0 hx hy hz hh this k2
    go_enter Try.func15, Try.ntmps15
    go_wp2_with fail
    refine (k1.out _).mono ?_
    rintro e w3 ⟨rfl, rfl⟩
    go_wp2
    go_ret3
    exact ⟨rfl, Drawn0.refl _⟩
def quitrentlaw10_goes.f : Option Bool := some true
end Go.Proofs.Ytimdoddaaelfjaa.Ext
