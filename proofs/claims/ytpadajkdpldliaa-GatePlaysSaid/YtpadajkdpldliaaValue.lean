/- Contracts of quitrentref01's Value and State, proved by walking their code. -/
import Derived.Test.YtpadajkdpldliaaRead
namespace Go.Proofs.Ytpadajkdpldliaa.Ext
open Go.RowKit Go.Proofs.YtpadajkdpldliaaW.PrintWords Go.Proofs.YtpadajkdpldliaaW.PrintLast Go.Proofs.YtpadajkdpldliaaW.PrintMore Go.Proofs.YtpadajkdpldliaaW.Hand
set_option linter.unusedVariables false
set_option maxHeartbeats 800000 in
theorem Value_calls (A : Option Addr) (c n : Nat) (l : List Int) (hn : l.length = n) (w : World) (hr : Kd.C (Kd.int .u8) w A n l) (h : ∀ c ∈ l, IsByte c) (h8 : l.length ≤ 8) :
    Calls Try.prog 38 #[.slice A n c] w fun e w' => e = .returned (.int .u64 (beVal l)) ∧ Drawn0 w w' := by
  subst hn
  have HR := Aside0.mk hr
  clear hr
  go_enter Try.func38, Try.ntmps38
  go_wp2
  go_loopw [3, 4] (fun v i wr => ∃ j : Nat, j ≤ l.length ∧ i = .int .i64 j ∧ v = .int .u64 (beVal (l.take j)) ∧ Aside0 (Drawn0 w wr)) (fun _ i _ => l.length - (intOf i).toNat)
  case atStart => exact ⟨0, by omega, rfl, by simp [beVal], ⟨Drawn0.refl _⟩⟩
  case round =>
    obtain ⟨j, hj, rfl, rfl, HD⟩ := hrel
    by_cases hlt : j < l.length
    · obtain ⟨ad, e1, hx⟩ := Kd.at_int (Kd.C_below HR.out HD.out.below) j (by omega) (by omega)
      cases e1
      simp only [Int.toNat_natCast] at hx
      obtain ⟨h1, h2, h3⟩ := sum_step l h h8 j hlt
      have hc := rd_byte l h j hlt
      obtain ⟨c1, HC⟩ : ∃ c, Aside0 (c = rd l j) := ⟨_, ⟨rfl⟩⟩
      rw [← HC.out] at hx h2 h3 hc
      obtain ⟨v1, HV⟩ : ∃ v, Aside0 (v = beVal (l.take j)) := ⟨_, ⟨rfl⟩⟩
      rw [← HV.out] at h1 h2 h3 ⊢
      have H3 := Aside0.mk h3
      have hc1 := hc.1
      have hc2 := hc.2
      clear hc h3 h
      have q1 : IntKind.u64.wrap (v1 * 256) = v1 * 256 := by rw [u64_conv, Int.emod_eq_of_lt (by omega) (by omega)]
      have q2 : IntKind.u64.wrap (v1 * 256 + c1) = v1 * 256 + c1 := by rw [u64_conv, Int.emod_eq_of_lt (by omega) (by omega)]
      have q3 : bits .or .u64 (v1 * 256) c1 = v1 * 256 + c1 := by
        have et : top64 = 18446744073709551616 := rfl
        exact bits_join .u64 64 (by decide) (fun n h0 h1 => by rw [IntKind.wrap_u64]; omega) 8 (v1 * 256) c1 (by omega) (by omega) (by omega) hc1 (by omega) (by omega)
      go_wp2_with fail
      go_roundw
      case rel => exact ⟨j + 1, by omega, by go_num, by rw [H3.out], HD⟩
      case measure => simp [intOf]; omega
    · obtain rfl : j = l.length := by omega
      rw [List.take_length]
      go_wp2_with fail
      go_ret
      exact ⟨rfl, HD.out⟩
theorem cut_mid {A : Option Addr} {c : Nat} {xs : List Int} {a b : Nat} (h1 : a ≤ b) (hm : b ≤ xs.length) (hc : xs.length ≤ c) (bi : Int) (hb : bi = (b : Int)) :
    ∃ (A' : Option Addr) (c' : Nat), (∀ W : World, (Instr.slice 39 (.slice A xs.length c) (some (.int .i64 (a : Int))) (some (.int .i64 bi)) none).run Try.prog W = .ok (.slice A' (b - a) c') W) ∧
      (∀ w : World, Kd.C (Kd.int .u8) w A xs.length xs → Kd.C (Kd.int .u8) w A' ((xs.take b).drop a).length ((xs.take b).drop a)) ∧ b - a ≤ c' := by
  subst hb
  obtain ⟨i0, hi, hz0, hz1, hz2⟩ := info_parts infoU8
  obtain ⟨A', h3, h4, h5⟩ := print_mid_of (P := Try.prog) (Value.int .u8) (0 : Int) 39 5 .i64 .i64 Try.underlying39 hi hz1 A c xs (a : Int) (b : Int) (by omega) (by omega) (by omega) hc
  have hl : ((xs.take b).drop a).length = b - a := by simp; omega
  simp only [Int.toNat_natCast, hl] at h3 h5
  simp only [Int.toNat_natCast] at h4
  exact ⟨A', _, h3, fun w h => Kd.C_of_reads (d := (0 : Int)) (h1 := fun _ => rfl) (h4 w (Kd.reads_of_C (enc := Value.int .u8) (d := (0 : Int)) (h1 := fun _ => rfl) h)), h5⟩
end Go.Proofs.Ytpadajkdpldliaa.Ext
