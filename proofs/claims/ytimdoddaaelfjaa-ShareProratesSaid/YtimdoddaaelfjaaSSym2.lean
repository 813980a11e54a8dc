/- The merge in place, one on the right: the walk. -/
import Derived.Test.YtimdoddaaelfjaaSSym1
namespace Go.Proofs.Ytimdoddaaelfjaa.Ext
open Go.RowKit Go.Proofs.YtimdoddaaelfjaaW.PrintWords Go.Proofs.YtimdoddaaelfjaaW.PrintLast Go.Proofs.YtimdoddaaelfjaaW.PrintMore Go.Proofs.YtimdoddaaelfjaaW.Hand
set_option linter.unusedVariables false
set_option maxRecDepth 100000 in
set_option maxHeartbeats 6400000 in
theorem symMerge_last {g n cap gb gr capr : Nat} {r : Nat → Int} (a m b : Nat) (f : Nat → Nat) (w : World) (hR : RowAt w g n f) (hX : RestsAt w gb gr n capr r) (hgb : gb ≠ g) (hgr : gr ≠ g) (ha : a + 1 < m) (hm : b = m + 1) (hb : b ≤ n)
    (hB : Bd n f) (hT : Two r f a m b) (hn : n < 4611686018427387904) :
    Calls Try.prog 36 #[.slice (some ⟨g, 0, none⟩) n cap, .int .i64 a, .int .i64 m, .int .i64 b, .func (.func 18) #[] #[.pointer (some ⟨gb, 0, none⟩)]] w fun e w' => e = .returned (.tuple #[]) ∧ Left g n w w' a b r f := by
  have HR := Aside0.mk hR
  have HX := Aside0.mk hX
  have HB := Aside0.mk hB
  have HT := Aside0.mk hT
  have HGB := Aside0.mk hgb
  have HGR := Aside0.mk hgr
  have HM := Aside0.mk hm
  have q0 : IntKind.i64.wrap ((m : Int) - (a : Int)) = ((m - a : Nat) : Int) := by rw [IntKind.wrap_i64]; omega
  have q0' : (((m - a : Nat) : Int) == 1) = false := by rw [beq_eq_false_iff_ne]; omega
  have q1 : IntKind.i64.wrap ((b : Int) - (m : Int)) = 1 := by rw [IntKind.wrap_i64]; omega
  have mn : m < n := by omega
  clear hR hX hB hT hgb hgr hm
  go_enter Try.func36, Try.ntmps36
  go_wp2
  go_loopw [14, 15] (fun vi vj wr => ∃ (i j : Nat), vi = .int .i64 i ∧ vj = .int .i64 j ∧ a ≤ i ∧ i ≤ j ∧ j ≤ m ∧ Aside0 (a < i → bf r (f (i - 1)) (f m)) ∧ Aside0 (j < m → bf r (f m) (f j)) ∧ Aside0 (Upd g w wr) ∧ Aside0 (RowAt wr g n f)) (fun i j _ => (intOf j).toNat - (intOf i).toNat)
  case atStart => exact ⟨a, m, rfl, rfl, Nat.le_refl _, by omega, Nat.le_refl _, ⟨fun h => by omega⟩, ⟨fun h => by omega⟩, ⟨Upd.refl _ _⟩, HR⟩
  case round =>
    obtain ⟨i, j, rfl, rfl, hi1, hi2, hj, HL, HH, HU, HS⟩ := hrel
    by_cases hlt : i < j
    · have hz : (i : Int) < (j : Int) := by omega
      obtain ⟨s, hs⟩ : ∃ s, s = i + j := ⟨_, rfl⟩
      obtain ⟨h, hh⟩ : ∃ h, h = s / 2 := ⟨_, rfl⟩
      have w1 : IntKind.i64.wrap ((i : Int) + (j : Int)) = (s : Int) := by rw [IntKind.wrap_i64]; omega
      have w2 : IntKind.u64.wrap (s : Int) = (s : Int) := by rw [IntKind.wrap_u64]; omega
      have w3 : (s : Int) / 2 = (h : Int) := by omega
      have w4 : IntKind.i64.wrap (h : Int) = (h : Int) := by rw [IntKind.wrap_i64]; omega
      have w5 : IntKind.u64.wrap (h : Int) = (h : Int) := by rw [IntKind.wrap_u64]; omega
      have l1 : (h : Int) < (n : Int) := by omega
      have l2 : (m : Int) < (n : Int) := by omega
      have l3 : i ≤ h ∧ h < j := by omega
      have e2 : h < n := by omega
      obtain ⟨x, y, E1, E2, c1, c2, f1, f2⟩ := HS.out.two (i := m) (j := h) mn e2
      have hc := cmp_any (HX.out.upd HU.out HGB.out HGR.out) x y (by rw [← E1]; exact HB.out _ mn) (by rw [← E2]; exact HB.out _ e2)
      have EX := Aside0.mk E1
      have EY := Aside0.mk E2
      clear E1 E2 hs hh e2
      have hxy : y < x := by rw [← EX.out, ← EY.out]; exact HT.out.2.2 h m (by omega) (by omega) (Nat.le_refl _) (by have := HM.out; omega)
      by_cases hlv : r y < r x
      · have hz3 : decide (cmpv r x y < 0) = true := decide_eq_true (cmpv_neg.2 hlv)
        generalize cmpv r x y = z at hc hz3
        go_wp2_with fail
        go_quiet (first | (go_at_call 18; refine Calls.quiet_of (hc.out _)))
        go_wp2_with fail
        go_roundw
        case measure => simp [intOf]; omega
        case rel => exact ⟨i, h, rfl, rfl, hi1, by omega, by omega, HL, ⟨fun _ => by rw [EX.out, EY.out]; exact (bf_gt hxy).2 hlv⟩, ⟨HU.out.drewN _⟩, ⟨HS.out.drewN _⟩⟩
      · have hz3 : decide (cmpv r x y < 0) = false := decide_eq_false fun h => hlv (cmpv_neg.1 h)
        generalize cmpv r x y = z at hc hz3
        go_wp2_with fail
        go_quiet (first | (go_at_call 18; refine Calls.quiet_of (hc.out _)))
        go_wp2_with fail
        go_roundw
        case measure => simp [intOf]; omega
        case rel => exact ⟨h + 1, j, by go_num, rfl, by omega, by omega, hj, ⟨fun _ => by rw [show h + 1 - 1 = h by omega, EX.out, EY.out]; exact (bf_le hxy).2 (by omega)⟩, HH, ⟨HU.out.drewN _⟩, ⟨HS.out.drewN _⟩⟩
    · obtain rfl : i = j := by omega
      have hz : ¬ (i : Int) < (i : Int) := by omega
      go_wp2
      go_loopw [17] (fun vk wr => ∃ k : Nat, vk = .int .i64 k ∧ i ≤ k ∧ k ≤ m ∧ Aside0 (Upd g w wr) ∧ Aside0 (RowAt wr g n (rot k m (m + 1) f))) (fun k _ => (intOf k).toNat)
      case atStart => exact ⟨m, rfl, hj, Nat.le_refl _, HU, ⟨by rw [rot_none' (by omega)]; exact HS.out⟩⟩
      case round =>
        obtain ⟨k, rfl, hk1, hk2, HV, HW⟩ := hrel
        by_cases hkt : i < k
        · have hkz : (i : Int) < (k : Int) := by omega
          obtain ⟨q, hq⟩ : ∃ q, q = k - 1 := ⟨_, rfl⟩
          have HQ := Aside0.mk (show k = q + 1 by omega)
          have w2 : IntKind.i64.wrap ((k : Int) - 1) = (q : Int) := by rw [IntKind.wrap_i64]; omega
          have l1 : (k : Int) < (n : Int) := by omega
          have l2 : (q : Int) < (n : Int) := by omega
          obtain ⟨u, v, E1, E2, c1, c2, f1, f2⟩ := HW.out.two (i := k) (j := q) (by omega) (by omega)
          have c3 := (HW.out.other (i := k) (j := q) (by omega) (by omega) (by omega) (.int .i64 v)).1
          have f3 := (HW.out.other (i := k) (j := q) (by omega) (by omega) (by omega) (.int .i64 v)).2
          rw [E2] at c3
          have F1 := Aside0.mk E1
          have F2 := Aside0.mk E2
          clear E1 E2 hq
          go_wp2_with fail
          go_region
          go_wp2_with fail
          go_roundw
          case measure => have e5 := HQ.out; simp [intOf]; omega
          case rel =>
            have e5 := HQ.out
            refine ⟨q, rfl, by omega, by omega, ⟨((HV.out.put _ _).put _ _).drew⟩, ⟨RowAt.drew ?_⟩⟩
            have := HW.out.swap (i := k) (j := q) (by omega) (by omega)
            rw [F1.out, F2.out, e5, rot_back (by omega), ← e5] at this
            exact this
        · obtain rfl : i = k := by omega
          have hkz : ¬ (i : Int) < (i : Int) := by omega
          go_wp2_with fail
          refine bodyPost_ret (results_none rfl _ _ _) rfl ?_
          have e6 := HM.out
          subst e6
          exact ⟨rfl, HV.out, _, HW.out, merge_last HT.out (by omega) (by omega) (fun h => HL.out h) (fun h => HH.out h)⟩
end Go.Proofs.Ytimdoddaaelfjaa.Ext
