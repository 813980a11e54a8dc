/- The contract of math/bits.Div64, proved by walking its code. -/
import Derived.Test.YtimdoddaaelfjaaLen
import Derived.Test.YtimdoddaaelfjaaDivMath
import Derived.BigQuiet
import Derived.Deep.QuietTactic
import Derived.Deep.DeepCutAuto
import Derived.Deep.CutBlock
namespace Go.Proofs.Ytimdoddaaelfjaa.Ext
open Go.RowKit Go.Proofs.YtimdoddaaelfjaaW.PrintWords Go.Proofs.YtimdoddaaelfjaaW.PrintLast Go.Proofs.YtimdoddaaelfjaaW.PrintMore Go.Proofs.YtimdoddaaelfjaaW.Hand
set_option linter.unusedVariables false
theorem wrapU (a : Nat) (ha : a < 18446744073709551616) : IntKind.u64.wrap (a : Int) = (a : Int) := M64.wrapN a ha
set_option maxRecDepth 100000 in
set_option maxHeartbeats 6400000 in
theorem Div64_any (hi lo y : Nat) (hh : hi < y) (hlo : lo < 18446744073709551616) (hy : y < 18446744073709551616) (w : World) :
    Calls Try.prog 26 #[.int .u64 hi, .int .u64 lo, .int .u64 y] w fun e w' =>
      e = .returned (.tuple #[.int .u64 ((hi * 18446744073709551616 + lo) / y : Nat), .int .u64 ((hi * 18446744073709551616 + lo) % y : Nat)]) ∧ Drawn0 w w' := by
  have b0 : ¬ y = 0 := by omega
  have b1 : ¬ y ≤ hi := by omega
  by_cases hz : hi = 0
  · subst hz
    rw [show 0 * 18446744073709551616 + lo = lo by omega]
    have q0 : ((lo : Int).tdiv (y : Int)) = ((lo / y : Nat) : Int) := by rw [Int.tdiv_eq_ediv_of_nonneg (by omega)]; rfl
    have q2 : ((lo : Int).tmod (y : Int)) = ((lo % y : Nat) : Int) := by rw [Int.tmod_eq_emod_of_nonneg (by omega)]; rfl
    have q1 : IntKind.u64.wrap ((lo / y : Nat) : Int) = ((lo / y : Nat) : Int) := wrapU _ (by have := Nat.div_le_self lo y; omega)
    have q3 : IntKind.u64.wrap ((lo % y : Nat) : Int) = ((lo % y : Nat) : Int) := wrapU _ (by have := Nat.mod_le lo y; omega)
    have b3 : ((y : Int) == 0) = false := beq_eq_false_iff_ne.mpr (by omega)
    generalize lo / y = d at *
    generalize lo % y = m at *
    clear hlo hy hh b1
    have b1 : decide ((y : Int) ≤ 0) = false := decide_eq_false (by omega)
    rw [show ((0 : Nat) : Int) = 0 from rfl]
    go_enter Try.func26, Try.ntmps26
    go_wp2_with fail
    go_quiet (fail)
    go_wp2
    go_ret2
    exact ⟨rfl, ⟨⟨_, rfl⟩⟩⟩
  · have b2 : ((hi : Int) == 0) = false := beq_eq_false_iff_ne.mpr (by omega)
    go_enter Try.func26, Try.ntmps26
    go_upto_region 8 with (refine (LeadingZeros64_any y hy _).mono ?_; rintro e w1 ⟨n, rfl, h1, h2, h3, rfl⟩)
    have HW := Aside0.mk (D64.whole hi lo y n hh hlo h1 h2)
    have hP : 0 < 2 ^ n := Nat.two_pow_pos n
    have hU : hi * 2 ^ n + lo / 2 ^ (64 - n) < y * 2 ^ n := by
      have : lo / 2 ^ (64 - n) < 2 ^ n := by
        rw [Nat.div_lt_iff_lt_mul (Nat.two_pow_pos _), ← Nat.pow_add, show n + (64 - n) = 64 by omega]; exact hlo
      have h5 : (hi + 1) * 2 ^ n ≤ y * 2 ^ n := Nat.mul_le_mul_right _ (by omega)
      rw [Nat.add_mul] at h5
      omega
    have hor : bits .or .u64 (IntKind.u64.wrap ((hi : Int) * 2 ^ n)) ((lo : Int) / 2 ^ (64 - n)) = ((hi * 2 ^ n + lo / 2 ^ (64 - n) : Nat) : Int) := by
      have : lo / 2 ^ (64 - n) < 2 ^ n := by
        rw [Nat.div_lt_iff_lt_mul (Nat.two_pow_pos _), ← Nat.pow_add, show n + (64 - n) = 64 by omega]; exact hlo
      have e1 : ((hi : Int) * 2 ^ n) = ((hi * 2 ^ n : Nat) : Int) := by simp
      have e2 : ((lo : Int) / 2 ^ (64 - n)) = ((lo / 2 ^ (64 - n) : Nat) : Int) := by simp
      have hA : hi * 2 ^ n < 18446744073709551616 := by
        clear e1 e2 HW hlo hy b2 h1 hP h3
        generalize hi * 2 ^ n = A at *
        generalize y * 2 ^ n = Y at *
        generalize lo / 2 ^ (64 - n) = l at *
        omega
      have hB : lo / 2 ^ (64 - n) < 18446744073709551616 := Nat.lt_of_le_of_lt (Nat.div_le_self _ _) hlo
      rw [e1, e2, wrapU _ hA, bits_or_u64_nat _ _ hA hB, D64.or_add _ _ _ this]
    have hsl : IntKind.u64.wrap ((y : Int) * 2 ^ n) = ((y * 2 ^ n : Nat) : Int) := by
      have e1 : ((y : Int) * 2 ^ n) = ((y * 2 ^ n : Nat) : Int) := by simp
      rw [e1, wrapU _ h2]
    have hll : IntKind.u64.wrap ((lo : Int) * 2 ^ n) = ((lo * 2 ^ n % 18446744073709551616 : Nat) : Int) := by
      have e1 : ((lo : Int) * 2 ^ n) = ((lo * 2 ^ n : Nat) : Int) := by simp
      rw [e1, M64.wrapM]
    have hY3 := h3 (by omega)
    have hlast : ∀ m : Nat, (m : Int) / 2 ^ n = ((m / 2 ^ n : Nat) : Int) := fun m => by simp
    have HLAST := Aside0.mk hlast
    clear h3 hlast
    generalize hi * 2 ^ n + lo / 2 ^ (64 - n) = U at *
    have hL : lo * 2 ^ n % 18446744073709551616 < 18446744073709551616 := Nat.mod_lt _ (by omega)
    generalize lo * 2 ^ n % 18446744073709551616 = L at *
    generalize y * 2 ^ n = Y at *
    have fa : (Y : Int) / 4294967296 = ((Y / 4294967296 : Nat) : Int) := M64.divN Y
    have fb : bits .and .u64 (Y : Int) 4294967295 = ((Y % 4294967296 : Nat) : Int) := M64.maskN Y h2
    have fc : (L : Int) / 4294967296 = ((L / 4294967296 : Nat) : Int) := M64.divN L
    have fd : bits .and .u64 (L : Int) 4294967295 = ((L % 4294967296 : Nat) : Int) := M64.maskN L hL
    have S1 : D64.Sized U (L / 4294967296) Y (Y / 4294967296) (Y % 4294967296) := ⟨by omega, by omega, by omega, by omega, by omega, hU⟩
    have ha0 : ¬ Y / 4294967296 = 0 := by omega
    have S2 : Aside0 (∀ V, V < Y → D64.Sized V (L % 4294967296) Y (Y / 4294967296) (Y % 4294967296)) := ⟨fun V hV => ⟨by omega, by omega, by omega, by omega, by omega, hV⟩⟩
    generalize Y / 4294967296 = a at *
    generalize Y % 4294967296 = b at *
    generalize L / 4294967296 = L1 at *
    generalize L % 4294967296 = L0 at *
    have I0 := D64.Inv.start S1
    have hUa : U / a ≤ 4294967297 := I0.qs
    have fe : ((U : Int).tdiv (a : Int)) = ((U / a : Nat) : Int) := by rw [Int.tdiv_eq_ediv_of_nonneg (by omega)]; rfl
    have ff : IntKind.u64.wrap ((U / a : Nat) : Int) = ((U / a : Nat) : Int) := wrapU _ (by omega)
    have fg : IntKind.u64.wrap ((U : Int) - IntKind.u64.wrap (((U / a : Nat) : Int) * (a : Int))) = ((U % a : Nat) : Int) := by
      have e := I0.eq
      rw [M64.mulN, wrapU _ (by omega), show (U : Int) - ((U / a * a : Nat) : Int) = ((U % a : Nat) : Int) by omega, wrapU _ (by have := I0.rs; omega)]
    generalize U / a = q at *
    generalize U % a = r at *
    clear hUa h2 hP hY3 hL hh hy b2 hz
    have S1' := Aside0.mk S1
    have I0' := Aside0.mk I0
    have hU' := Aside0.mk hU
    clear S1 I0 hU
    go_upto_block 0 with fail
    clear hor hll hsl fa fb fc fd fe ff fg ha0
    have b1' := Aside0.mk b1
    have b0' := Aside0.mk b0
    have hlo' := Aside0.mk hlo
    clear b0 b1 hlo
    go_cut [15, 16] from 67 to 85 (fun v x wc => ∃ r : Nat, v = .int .u64 ((U * 4294967296 + L1) / Y : Nat) ∧ x = .int .u64 r ∧ wc = w1)
    case first =>
      go_wp2_with fail
      go_loop [15, 16] (fun v x => ∃ q r : Nat, v = .int .u64 q ∧ x = .int .u64 r ∧ Aside0 (D64.Inv U L1 Y a b q r)) (fun v _ => (intOf v).toNat)
      case atStart => exact ⟨q, r, rfl, rfl, I0'⟩
      case round =>
        obtain ⟨q, r, rfl, rfl, I⟩ := hrel
        have hq := I.out.qs
        have hr := I.out.rs
        have ha := S1'.out.a2
        have hb := S1'.out.bs
        have hl := S1'.out.ls
        by_cases hm : U * 4294967296 + L1 < q * Y
        · have hq1 : 0 < q := by
            rcases Nat.eq_zero_or_pos q with rfl | h
            · omega
            · exact h
          have g0 : IntKind.u64.wrap ((q : Int) - 1) = ((q - 1 : Nat) : Int) := by rw [show (q : Int) - 1 = ((q - 1 : Nat) : Int) by omega, wrapU _ (by omega)]
          have g1 : IntKind.u64.wrap ((r : Int) + (a : Int)) = ((r + a : Nat) : Int) := by rw [M64.addN, wrapU _ (by omega)]
          have hstep : (4294967296 ≤ q) ∨ (q < 4294967296 ∧ 4294967296 * r + L1 < q * b) := by
            by_cases h : 4294967296 ≤ q
            · exact .inl h
            · by_cases h' : 4294967296 * r + L1 < q * b
              · exact .inr ⟨by omega, h'⟩
              · exfalso
                have e := D64.Inv.stop S1'.out I.out (by omega)
                have h3 := Nat.div_mul_le_self (U * 4294967296 + L1) Y
                rw [e] at h3
                omega
          have HI := Aside0.mk (fun h => D64.Inv.next I.out hm h)
          have HO := Aside0.mk (fun h => D64.Inv.leave S1'.out I.out hm h)
          have hrs : r + a < 18446744073709551616 := by omega
          rcases hstep with hs | ⟨hs, hs'⟩
          · have t0 : decide ((4294967296 : Int) ≤ q) = true := decide_eq_true (by omega)
            clear hm hs
            by_cases hx : 4294967296 ≤ r + a
            · have t1 : decide ((4294967296 : Int) ≤ ((r + a : Nat) : Int)) = true := decide_eq_true (by omega)
              have e := Aside0.mk (HO.out hx)
              clear HI HO hx hq hr ha hb hl hrs
              generalize r + a = r' at *
              go_wp2
              go_meet
              exact ⟨r', by rw [e.out], rfl, rfl⟩
            · have t1 : decide ((4294967296 : Int) ≤ ((r + a : Nat) : Int)) = false := decide_eq_false (by omega)
              have e := Aside0.mk (HI.out (by omega))
              clear HI HO hx hq hr ha hb hl hrs
              generalize r + a = r' at *
              go_wp2
              go_round
              case rel => exact ⟨q - 1, r', rfl, rfl, e⟩
              case measure => simp [intOf]; omega
          · have t0 : decide ((4294967296 : Int) ≤ q) = false := decide_eq_false (by omega)
            have hqb : q * b < 18446744073709551616 := by
              have := Nat.mul_le_mul (show q ≤ 4294967295 by omega) (show b ≤ 4294967295 by omega); omega
            have g2 : IntKind.u64.wrap ((q : Int) * (b : Int)) = ((q * b : Nat) : Int) := by rw [M64.mulN, wrapU _ hqb]
            have g3 : IntKind.u64.wrap (4294967296 * (r : Int)) = ((4294967296 * r : Nat) : Int) := by rw [show 4294967296 * (r : Int) = ((4294967296 * r : Nat) : Int) by omega, wrapU _ (by omega)]
            have g4 : IntKind.u64.wrap (((4294967296 * r : Nat) : Int) + (L1 : Int)) = ((4294967296 * r + L1 : Nat) : Int) := by rw [M64.addN, wrapU _ (by omega)]
            have t2 : 4294967296 * r + L1 < q * b := hs'
            clear hm hs hs' hqb
            generalize q * b = qb at *
            generalize hK : 4294967296 * r + L1 = k at *
            generalize hK' : 4294967296 * r = k' at *
            clear hK hK'
            by_cases hx : 4294967296 ≤ r + a
            · have t1 : decide ((4294967296 : Int) ≤ ((r + a : Nat) : Int)) = true := decide_eq_true (by omega)
              have e := Aside0.mk (HO.out hx)
              clear HI HO hx hq hr ha hb hl hrs
              generalize r + a = r' at *
              go_wp2
              go_meet
              exact ⟨r', by rw [e.out], rfl, rfl⟩
            · have t1 : decide ((4294967296 : Int) ≤ ((r + a : Nat) : Int)) = false := decide_eq_false (by omega)
              have e := Aside0.mk (HI.out (by omega))
              clear HI HO hx hq hr ha hb hl hrs
              generalize r + a = r' at *
              go_wp2
              go_round
              case rel => exact ⟨q - 1, r', rfl, rfl, e⟩
              case measure => simp [intOf]; omega
        · have e := D64.div_eq (by omega) I.out.lt
          have hs : q < 4294967296 := by
            rw [← e]
            have := S1'.out.us
            rw [Nat.div_lt_iff_lt_mul (by omega)]
            omega
          have hqb : q * b ≤ 4294967296 * r + L1 := by
            by_cases h : q * b ≤ 4294967296 * r + L1
            · exact h
            · exact absurd (D64.Inv.more S1'.out I.out (.inr (by omega))) hm
          have t0 : decide ((4294967296 : Int) ≤ q) = false := decide_eq_false (by omega)
          have g2 : IntKind.u64.wrap ((q : Int) * (b : Int)) = ((q * b : Nat) : Int) := by rw [M64.mulN, wrapU _ (by omega)]
          have g3 : IntKind.u64.wrap (4294967296 * (r : Int)) = ((4294967296 * r : Nat) : Int) := by rw [show 4294967296 * (r : Int) = ((4294967296 * r : Nat) : Int) by omega, wrapU _ (by omega)]
          have g4 : IntKind.u64.wrap (((4294967296 * r : Nat) : Int) + (L1 : Int)) = ((4294967296 * r + L1 : Nat) : Int) := by rw [M64.addN, wrapU _ (by omega)]
          have t2 : ¬ 4294967296 * r + L1 < q * b := by omega
          have E := Aside0.mk e
          clear hm hs hqb hq hr ha hb hl e
          generalize q * b = qb at *
          generalize hK : 4294967296 * r + L1 = k at *
          generalize hK' : 4294967296 * r = k' at *
          clear hK hK'
          go_wp2
          go_meet
          exact ⟨r, by rw [E.out], rfl, rfl⟩
    case rest =>
      obtain ⟨r1, rfl, rfl, rfl⟩ := hcut
      clear I0'
      have hYp : 0 < Y := by have := hU'.out; omega
      have hY64 : Y < 18446744073709551616 := by have := S1'.out.yy; have := S1'.out.a2; have := S1'.out.bs; omega
      have hl1 := S1'.out.ls
      have hV : (U * 4294967296 + L1) % Y < Y := Nat.mod_lt _ hYp
      have hd := Nat.div_add_mod' (U * 4294967296 + L1) Y
      obtain ⟨hw1, hw2⟩ := HW.out
      clear HW S1' hU'
      obtain ⟨q1, hq1⟩ : ∃ q1, (U * 4294967296 + L1) / Y = q1 := ⟨_, rfl⟩
      obtain ⟨V, hVV⟩ : ∃ V, (U * 4294967296 + L1) % Y = V := ⟨_, rfl⟩
      rw [hq1]
      rw [hq1, hVV] at hw1 hd
      rw [hVV] at hw2 hV
      clear hq1 hVV
      have fh : IntKind.u64.wrap (IntKind.u64.wrap (IntKind.u64.wrap ((U : Int) * 4294967296) + (L1 : Int)) - IntKind.u64.wrap ((q1 : Int) * (Y : Int))) = (V : Int) := by
        rw [M64.mulN q1 Y]
        clear hw1 hw2
        generalize q1 * Y = z at *
        simp only [IntKind.wrap_u64]
        omega
      have S2' := Aside0.mk (S2.out V hV)
      have ha0 : ¬ a = 0 := by have := S2'.out.a1; omega
      have I2 := D64.Inv.start S2'.out
      have fe : ((V : Int).tdiv (a : Int)) = ((V / a : Nat) : Int) := by rw [Int.tdiv_eq_ediv_of_nonneg (by omega)]; rfl
      have ff : IntKind.u64.wrap ((V / a : Nat) : Int) = ((V / a : Nat) : Int) := wrapU _ (by have := I2.qs; omega)
      have fg : IntKind.u64.wrap ((V : Int) - IntKind.u64.wrap (((V / a : Nat) : Int) * (a : Int))) = ((V % a : Nat) : Int) := by
        have e := I2.eq
        rw [M64.mulN, wrapU _ (by omega), show (V : Int) - ((V / a * a : Nat) : Int) = ((V % a : Nat) : Int) by omega, wrapU _ (by have := I2.rs; omega)]
      generalize V / a = q2 at *
      generalize V % a = r2 at *
      have I2' := Aside0.mk I2
      have hV' := Aside0.mk hV
      have HW := Aside0.mk (And.intro hw1 hw2)
      have HQ : Aside0 ((hi * 18446744073709551616 + lo) / y < 18446744073709551616) := ⟨by
        have b1 := b1'.out
        have hlo := hlo'.out
        rw [Nat.div_lt_iff_lt_mul (by omega)]
        have : (hi + 1) * 18446744073709551616 ≤ y * 18446744073709551616 := Nat.mul_le_mul_right _ (by omega)
        omega⟩
      have hl1' := Aside0.mk hl1
      have hY64' := Aside0.mk hY64
      have hYp' := Aside0.mk hYp
      clear I2 hV hd hw1 hw2 hl1 hY64 hYp
      obtain ⟨Q, hQ⟩ : ∃ Q, (hi * 18446744073709551616 + lo) / y = Q := ⟨_, rfl⟩
      obtain ⟨R, hR⟩ : ∃ R, (hi * 18446744073709551616 + lo) % y = R := ⟨_, rfl⟩
      rw [hQ, hR] at HW
      rw [hQ] at HQ
      have HQR := Aside0.mk (And.intro hQ hR)
      clear hQ hR
      go_upto_block 2 with fail
      clear fh fe ff fg ha0
      go_cut [18, 16] from 102 to 120 (fun v x wd => ∃ r : Nat, v = .int .u64 ((V * 4294967296 + L0) / Y : Nat) ∧ x = .int .u64 r ∧ wd = wc)
      case first =>
        go_wp2_with fail
        go_loop [18, 16] (fun v x => ∃ q r : Nat, v = .int .u64 q ∧ x = .int .u64 r ∧ Aside0 (D64.Inv V L0 Y a b q r)) (fun v _ => (intOf v).toNat)
        case atStart => exact ⟨q2, r2, rfl, rfl, I2'⟩
        case round =>
          obtain ⟨q, r, rfl, rfl, I⟩ := hrel
          have hq := I.out.qs
          have hr := I.out.rs
          have ha := S2'.out.a2
          have hb := S2'.out.bs
          have hl := S2'.out.ls
          by_cases hm : V * 4294967296 + L0 < q * Y
          · have hq1 : 0 < q := by
              rcases Nat.eq_zero_or_pos q with rfl | h
              · omega
              · exact h
            have g0 : IntKind.u64.wrap ((q : Int) - 1) = ((q - 1 : Nat) : Int) := by rw [show (q : Int) - 1 = ((q - 1 : Nat) : Int) by omega, wrapU _ (by omega)]
            have g1 : IntKind.u64.wrap ((r : Int) + (a : Int)) = ((r + a : Nat) : Int) := by rw [M64.addN, wrapU _ (by omega)]
            have hstep : (4294967296 ≤ q) ∨ (q < 4294967296 ∧ 4294967296 * r + L0 < q * b) := by
              by_cases h : 4294967296 ≤ q
              · exact .inl h
              · by_cases h' : 4294967296 * r + L0 < q * b
                · exact .inr ⟨by omega, h'⟩
                · exfalso
                  have e := D64.Inv.stop S2'.out I.out (by omega)
                  have h3 := Nat.div_mul_le_self (V * 4294967296 + L0) Y
                  rw [e] at h3
                  omega
            have HI := Aside0.mk (fun h => D64.Inv.next I.out hm h)
            have HO := Aside0.mk (fun h => D64.Inv.leave S2'.out I.out hm h)
            have hrs : r + a < 18446744073709551616 := by omega
            rcases hstep with hs | ⟨hs, hs'⟩
            · have t0 : decide ((4294967296 : Int) ≤ q) = true := decide_eq_true (by omega)
              clear hm hs
              by_cases hx : 4294967296 ≤ r + a
              · have t1 : decide ((4294967296 : Int) ≤ ((r + a : Nat) : Int)) = true := decide_eq_true (by omega)
                have e := Aside0.mk (HO.out hx)
                clear HI HO hx hq hr ha hb hl hrs
                generalize r + a = r' at *
                go_wp2
                go_meet
                exact ⟨r', by rw [e.out], rfl, rfl⟩
              · have t1 : decide ((4294967296 : Int) ≤ ((r + a : Nat) : Int)) = false := decide_eq_false (by omega)
                have e := Aside0.mk (HI.out (by omega))
                clear HI HO hx hq hr ha hb hl hrs
                generalize r + a = r' at *
                go_wp2
                go_round
                case rel => exact ⟨q - 1, r', rfl, rfl, e⟩
                case measure => simp [intOf]; omega
            · have t0 : decide ((4294967296 : Int) ≤ q) = false := decide_eq_false (by omega)
              have hqb : q * b < 18446744073709551616 := by
                have := Nat.mul_le_mul (show q ≤ 4294967295 by omega) (show b ≤ 4294967295 by omega); omega
              have g2 : IntKind.u64.wrap ((q : Int) * (b : Int)) = ((q * b : Nat) : Int) := by rw [M64.mulN, wrapU _ hqb]
              have g3 : IntKind.u64.wrap (4294967296 * (r : Int)) = ((4294967296 * r : Nat) : Int) := by rw [show 4294967296 * (r : Int) = ((4294967296 * r : Nat) : Int) by omega, wrapU _ (by omega)]
              have g4 : IntKind.u64.wrap (((4294967296 * r : Nat) : Int) + (L0 : Int)) = ((4294967296 * r + L0 : Nat) : Int) := by rw [M64.addN, wrapU _ (by omega)]
              have t2 : 4294967296 * r + L0 < q * b := hs'
              clear hm hs hs' hqb
              generalize q * b = qb at *
              generalize hK : 4294967296 * r + L0 = k at *
              generalize hK' : 4294967296 * r = k' at *
              clear hK hK'
              by_cases hx : 4294967296 ≤ r + a
              · have t1 : decide ((4294967296 : Int) ≤ ((r + a : Nat) : Int)) = true := decide_eq_true (by omega)
                have e := Aside0.mk (HO.out hx)
                clear HI HO hx hq hr ha hb hl hrs
                generalize r + a = r' at *
                go_wp2
                go_meet
                exact ⟨r', by rw [e.out], rfl, rfl⟩
              · have t1 : decide ((4294967296 : Int) ≤ ((r + a : Nat) : Int)) = false := decide_eq_false (by omega)
                have e := Aside0.mk (HI.out (by omega))
                clear HI HO hx hq hr ha hb hl hrs
                generalize r + a = r' at *
                go_wp2
                go_round
                case rel => exact ⟨q - 1, r', rfl, rfl, e⟩
                case measure => simp [intOf]; omega
          · have e := D64.div_eq (by omega) I.out.lt
            have hs : q < 4294967296 := by
              rw [← e]
              have := S2'.out.us
              rw [Nat.div_lt_iff_lt_mul (by omega)]
              omega
            have hqb : q * b ≤ 4294967296 * r + L0 := by
              by_cases h : q * b ≤ 4294967296 * r + L0
              · exact h
              · exact absurd (D64.Inv.more S2'.out I.out (.inr (by omega))) hm
            have t0 : decide ((4294967296 : Int) ≤ q) = false := decide_eq_false (by omega)
            have g2 : IntKind.u64.wrap ((q : Int) * (b : Int)) = ((q * b : Nat) : Int) := by rw [M64.mulN, wrapU _ (by omega)]
            have g3 : IntKind.u64.wrap (4294967296 * (r : Int)) = ((4294967296 * r : Nat) : Int) := by rw [show 4294967296 * (r : Int) = ((4294967296 * r : Nat) : Int) by omega, wrapU _ (by omega)]
            have g4 : IntKind.u64.wrap (((4294967296 * r : Nat) : Int) + (L0 : Int)) = ((4294967296 * r + L0 : Nat) : Int) := by rw [M64.addN, wrapU _ (by omega)]
            have t2 : ¬ 4294967296 * r + L0 < q * b := by omega
            have E := Aside0.mk e
            clear hm hs hqb hq hr ha hb hl e
            generalize q * b = qb at *
            generalize hK : 4294967296 * r + L0 = k at *
            generalize hK' : 4294967296 * r = k' at *
            clear hK hK'
            go_wp2
            go_meet
            exact ⟨r, by rw [E.out], rfl, rfl⟩
      case rest =>
        obtain ⟨r3, rfl, rfl, rfl⟩ := hcut
        clear I2'
        have hl0 := S2'.out.ls
        have hd := Nat.div_add_mod' (V * 4294967296 + L0) Y
        have hY64 := hY64'.out
        have hR : (V * 4294967296 + L0) % Y < Y := Nat.mod_lt _ hYp'.out
        have hq := HQ.out
        obtain ⟨hw1, hw2⟩ := HW.out
        have hlast := HLAST.out ((V * 4294967296 + L0) % Y)
        rw [hw2] at hlast
        clear HW S2' hw2 HLAST hl1' hYp' HQ hY64' hV' S2
        obtain ⟨q0, hq0⟩ : ∃ q0, (V * 4294967296 + L0) / Y = q0 := ⟨_, rfl⟩
        obtain ⟨R0, hR0⟩ : ∃ R0, (V * 4294967296 + L0) % Y = R0 := ⟨_, rfl⟩
        rw [hq0]
        rw [hq0] at hw1
        rw [hq0, hR0] at hd
        rw [hR0] at hR hlast
        clear hq0 hR0
        have fh : IntKind.u64.wrap (IntKind.u64.wrap (IntKind.u64.wrap ((V : Int) * 4294967296) + (L0 : Int)) - IntKind.u64.wrap ((q0 : Int) * (Y : Int))) = (R0 : Int) := by
          rw [M64.mulN q0 Y]
          clear hw1 hlast
          generalize q0 * Y = z at *
          simp only [IntKind.wrap_u64]
          omega
        have fi : IntKind.u64.wrap (IntKind.u64.wrap ((q1 : Int) * 4294967296) + (q0 : Int)) = (Q : Int) := by
          clear hd fh hlast
          simp only [IntKind.wrap_u64]
          omega
        clear hd hR hl0 hY64 hw1 hq
        go_wp2
        go_ret2
        exact ⟨by rw [HQR.out.1, HQR.out.2]; rfl, Drawn0.refl _⟩
end Go.Proofs.Ytimdoddaaelfjaa.Ext
