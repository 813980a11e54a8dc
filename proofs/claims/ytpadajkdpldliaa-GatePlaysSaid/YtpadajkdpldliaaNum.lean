/- Contracts of quitrentref01's Number and Text, proved by walking their code. -/
import Derived.Test.YtpadajkdpldliaaRead
namespace Go.Proofs.Ytpadajkdpldliaa.Ext
open Go.RowKit Go.Proofs.YtpadajkdpldliaaW.PrintWords Go.Proofs.YtpadajkdpldliaaW.PrintLast Go.Proofs.YtpadajkdpldliaaW.PrintMore Go.Proofs.YtpadajkdpldliaaW.Hand
set_option linter.unusedVariables false
theorem beN_take (n : Nat) (v : Int) (j : Nat) (hj : j < n) : (beN n v).take (j + 1) = (beN n v).take j ++ [v / 256 ^ (n - 1 - j) % 256] := by
  induction n generalizing j with
  | zero => omega
  | succ n ih =>
    cases j with
    | zero => simp [beN]
    | succ j =>
      rw [beN, List.take_succ_cons, List.take_succ_cons, List.cons_append, ih j (by omega), show n + 1 - 1 - (j + 1) = n - 1 - j by omega]
set_option maxRecDepth 100000 in
set_option maxHeartbeats 1600000 in
theorem Number_calls (v : Int) (n : Nat) (wd : Int) (hwd : wd = n) (w : World) (hn : n ≤ 8) (hv : 0 ≤ v) :
    Calls Try.prog 31 #[.int .u64 v, .int .i64 wd] w fun e w' => ∃ v0 : Value, e = .returned v0 ∧ Kd.R (Kd.int .u8) 5 w' w.heap.size (fun _ => True) v0 (beN n v) ∧ Below w.heap.size w w' := by
  subst hwd
  go_enter Try.func31, Try.ntmps31
  go_wp2_with fail
  go_loopw [5, 6] (fun o i wr => ∃ j : Nat, j ≤ n ∧ i = .int .i64 ((n : Int) - 1 - (j : Int)) ∧ Aside0 (Kd.R (Kd.int .u8) 5 wr w.heap.size (fun _ => True) o ((beN n v).take j)) ∧ Aside0 (Below w.heap.size w wr)) (fun _ i _ => (intOf i + 1).toNat)
  case atStart => exact ⟨0, by omega, by go_num, ⟨by rw [List.take_zero]; exact Kd.R_nil _ _ _ _ _⟩, ⟨Below.refl _ _⟩⟩
  case round =>
    obtain ⟨j, hj, rfl, HO, HB⟩ := hrel
    by_cases hlt : j < n
    · obtain ⟨m, hm, hm2⟩ : ∃ m : Nat, (n : Int) - 1 - (j : Int) = (m : Int) ∧ n - 1 - j = m := ⟨n - 1 - j, by omega, rfl⟩
      have hst := beN_take n v j hlt
      rw [hm2] at hst
      have HM := Aside0.mk hm
      rw [hm]
      have h80 : (0 : Int) ≤ 8 * (m : Int) := by omega
      have h81 : (8 : Int) * (m : Int) ≤ 64 := by omega
      have h83 : v / 2 ^ (8 * m) = v / 256 ^ m := by rw [Int.pow_mul]; rfl
      have h82 : (8 * (m : Int)).toNat = 8 * m := by omega
      have HST := Aside0.mk hst
      have HJ := Aside0.mk (show j < 8 by omega)
      clear hst hm hm2 hv
      go_wp2_with (at_builtin; obtain ⟨Av, cv, ev⟩ := Kd.R_slice HO.out; subst ev; refine Kd.R_append_row (Value.int .u8) (0 : Int) (w0 := w) w.heap.size rfl (.tmp 13) (.tmp 19) 39 5 (.int .u8 0) 1 rfl Try.underlying39 infoU8 rfl (by decide) (.slice Av ((beN n v).take j).length cv) ((beN n v).take j) [v / 256 ^ m % 256] (some ⟨wr.heap.size, 0, none⟩) 1 1 (fun _ => True) rfl rfl (fun _ _ => trivial) (Kd.R_below HO.out (below_alloc (Below.refl _ _) _)) (C_block (xs := [v / 256 ^ m % 256]) (heap_new _ _) rfl (by simp)) (below_alloc HB.out _) (Nat.le_trans HB.out.size (by rw [size_alloc]; omega)) (by have := HJ.out; simp; omega) ?_; intro v1 w2 ho1 hb1 hg1 hat1; rw [← HST.out] at ho1; have HV1 := Aside0.mk ho1; have HB1 := Aside0.mk hb1; clear ho1 hb1 hg1 hat1)
      go_roundw
      case rel => exact ⟨j + 1, by omega, by have := HM.out; go_num, HV1, HB1⟩
      case measure => have := HM.out; simp [intOf]
    · obtain rfl : j = n := by omega
      have hng : ¬ (0 : Int) ≤ (j : Int) - 1 - (j : Int) := by omega
      have HO2 : Aside0 (Kd.R (Kd.int .u8) 5 wr w.heap.size (fun _ => True) u5 (beN j v)) := ⟨by have := HO.out; rw [List.take_of_length_le (by rw [beN_length]; exact Nat.le_refl _)] at this; exact this⟩
      go_wp2_with fail
      go_ret
      exact ⟨_, rfl, HO2.out, HB.out⟩
set_option maxHeartbeats 800000 in
theorem RText_calls (A : Option Addr) (c : Nat) (s : List Int) (w : World) (hr : Kd.C (Kd.int .u8) w A s.length s) (hl : s.length ≤ 140737488355000) :
    Calls Try.prog 32 #[.slice A s.length c] w fun e w' => ∃ v0 : Value, e = .returned v0 ∧ Kd.R (Kd.int .u8) 5 w' w.heap.size (fun _ => True) v0 (beN 4 s.length ++ s) ∧ Below w.heap.size w w' := by
  have HR := Aside0.mk hr
  have hw : IntKind.u64.wrap (s.length : Int) = (s.length : Int) := by rw [IntKind.wrap_u64]; omega
  clear hr
  go_enter Try.func32, Try.ntmps32
  go_wp2_with fail
  refine (Number_calls s.length 4 4 rfl _ (by decide) (by omega)).mono ?_
  rintro e w1 ⟨v0, rfl, hV, hb⟩
  have HO := Aside0.mk hV
  have HB := Aside0.mk hb
  clear hV hb
  go_wp2_with (at_builtin; refine Kd.R_append_row (Value.int .u8) (0 : Int) (w0 := w) w.heap.size rfl (.tmp 6) (.tmp 7) 39 5 (.int .u8 0) 1 rfl Try.underlying39 infoU8 rfl (by decide) v0 (beN 4 s.length) s A s.length c (fun _ => True) rfl rfl (fun _ _ => trivial) HO.out (Kd.C_below HR.out HB.out) HB.out HB.out.size (by simp [beN_length]; omega) ?_; intro v1 w2 ho1 hb1 hg1 hat1; have HV1 := Aside0.mk ho1; have HB1 := Aside0.mk hb1; clear ho1 hb1 hg1 hat1)
  go_ret
  exact ⟨v1, rfl, HV1.out, HB1.out⟩
end Go.Proofs.Ytpadajkdpldliaa.Ext
