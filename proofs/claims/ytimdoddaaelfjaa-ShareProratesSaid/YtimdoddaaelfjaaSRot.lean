/- Exchanges of blocks and rotations: walks of the code. -/
import Derived.Test.YtimdoddaaelfjaaSCmp
namespace Go.Proofs.Ytimdoddaaelfjaa.Ext
open Go.RowKit Go.Proofs.YtimdoddaaelfjaaW.PrintWords Go.Proofs.YtimdoddaaelfjaaW.PrintLast Go.Proofs.YtimdoddaaelfjaaW.PrintMore Go.Proofs.YtimdoddaaelfjaaW.Hand
set_option linter.unusedVariables false
theorem wrapI (a : Nat) (h : a < 9223372036854775808) : IntKind.i64.wrap (a : Int) = (a : Int) := by rw [IntKind.wrap_i64]; omega
theorem RowAt.two {W : World} {g n : Nat} {f : Nat → Nat} (h : RowAt W g n f) {i j : Nat} (hi : i < n) (hj : j < n) :
    ∃ u v : Nat, f i = u ∧ f j = v ∧ W.cell? ⟨g, i, none⟩ = some (.int .i64 u) ∧ W.cell? ⟨g, j, none⟩ = some (.int .i64 v) ∧ W.frozen? ⟨g, i, none⟩ = false ∧ W.frozen? ⟨g, j, none⟩ = false := ⟨_, _, rfl, rfl, h.cell hi, h.cell hj, h.free i, h.free j⟩
theorem RowAt.other {W : World} {g n : Nat} {f : Nat → Nat} (h : RowAt W g n f) {i j : Nat} (hi : i < n) (hj : j < n) (hij : i ≠ j) (x : Value) :
    (W.setCell ⟨g, i, none⟩ x).cell? ⟨g, j, none⟩ = some (.int .i64 (f j)) ∧ (W.setCell ⟨g, i, none⟩ x).frozen? ⟨g, j, none⟩ = false := by
  obtain ⟨cs, hb, hc⟩ := h.out
  refine ⟨?_, (hb.put i x rfl).free j⟩
  rw [(hb.put i x rfl).cell, Array.getElem?_setIfInBounds_ne hij]; exact hc j hj
set_option maxRecDepth 100000 in
set_option maxHeartbeats 1600000 in
theorem swapRange_calls {g n cap : Nat} (a b k : Nat) (f : Nat → Nat) (cv : Value) (w : World) (hR : RowAt w g n f) (h1 : a + k ≤ b) (h2 : b + k ≤ n) (hn : n < 4611686018427387904) :
    Calls Try.prog 39 #[.slice (some ⟨g, 0, none⟩) n cap, .int .i64 a, .int .i64 b, .int .i64 k, cv] w fun e w' => e = .returned (.tuple #[]) ∧ Upd g w w' ∧ RowAt w' g n (sr a b k f) := by
  have HR := Aside0.mk hR
  clear hR
  go_enter Try.func39, Try.ntmps39
  go_wp2
  go_loopw [10] (fun i wr => ∃ j : Nat, j ≤ k ∧ i = .int .i64 j ∧ Aside0 (Upd g w wr) ∧ Aside0 (RowAt wr g n (sr a b j f))) (fun i _ => k - (intOf i).toNat)
  case atStart => exact ⟨0, by omega, rfl, ⟨Upd.refl _ _⟩, ⟨by rw [sr_none]; exact HR.out⟩⟩
  case round =>
    obtain ⟨j, hj, rfl, HU, HS⟩ := hrel
    by_cases hlt : j < k
    · have hz : (j : Int) < (k : Int) := by omega
      obtain ⟨u, v, E1, E2, c1, c2, f1, f2⟩ := HS.out.two (i := a + j) (j := b + j) (by omega) (by omega)
      have c3 := (HS.out.other (i := a + j) (j := b + j) (by omega) (by omega) (by omega) (.int .i64 v)).1
      have f3 := (HS.out.other (i := a + j) (j := b + j) (by omega) (by omega) (by omega) (.int .i64 v)).2
      rw [E2] at c3
      have F1 := Aside0.mk E1
      have F2 := Aside0.mk E2
      clear E1 E2
      obtain ⟨p, hp⟩ : ∃ p, p = a + j := ⟨_, rfl⟩
      obtain ⟨q, hq⟩ : ∃ q, q = b + j := ⟨_, rfl⟩
      have P := Aside0.mk hp
      have Q := Aside0.mk hq
      have w1 : IntKind.i64.wrap ((a : Int) + (j : Int)) = (p : Int) := by rw [IntKind.wrap_i64]; omega
      have w2 : IntKind.i64.wrap ((b : Int) + (j : Int)) = (q : Int) := by rw [IntKind.wrap_i64]; omega
      have l1 : (p : Int) < (n : Int) := by omega
      have l2 : (q : Int) < (n : Int) := by omega
      rw [← hp] at c1 f1 c3 f3
      rw [← hq] at c2 f2 c3 f3
      clear hp hq
      go_wp2_with fail
      go_region
      go_wp2_with fail
      go_roundw
      case measure => simp [intOf]; omega
      case rel =>
        refine ⟨j + 1, by omega, by go_num, ⟨((HU.out.put _ _).put _ _).drew⟩, ⟨RowAt.drew ?_⟩⟩
        have := HS.out.swap (i := a + j) (j := b + j) (by omega) (by omega)
        rw [sr_go (by omega), F1.out, F2.out, ← P.out, ← Q.out] at this
        exact this
    · obtain rfl : j = k := by omega
      go_wp2_with fail
      go_end0
      exact ⟨rfl, HU.out, HS.out⟩
set_option maxRecDepth 100000 in
set_option maxHeartbeats 3200000 in
theorem rotate_calls {g n cap : Nat} (a m b : Nat) (f : Nat → Nat) (cv : Value) (w : World) (hR : RowAt w g n f) (h1 : a < m) (h2 : m < b) (h3 : b ≤ n) (hn : n < 4611686018427387904) :
    Calls Try.prog 38 #[.slice (some ⟨g, 0, none⟩) n cap, .int .i64 a, .int .i64 m, .int .i64 b, cv] w fun e w' => e = .returned (.tuple #[]) ∧ Upd g w w' ∧ RowAt w' g n (rot a m b f) := by
  have HR := Aside0.mk hR
  clear hR
  have q1 : IntKind.i64.wrap ((m : Int) - (a : Int)) = ((m - a : Nat) : Int) := by rw [IntKind.wrap_i64]; omega
  have q2 : IntKind.i64.wrap ((b : Int) - (m : Int)) = ((b - m : Nat) : Int) := by rw [IntKind.wrap_i64]; omega
  go_enter Try.func38, Try.ntmps38
  go_wp2
  go_loopw [10, 11] (fun vi vj wr => ∃ (i j : Nat) (fc : Nat → Nat), vi = .int .i64 i ∧ vj = .int .i64 j ∧ 0 < i ∧ 0 < j ∧ i ≤ m ∧ m + j ≤ b ∧ Aside0 (RotI m i j (rot a m b f) fc) ∧ Aside0 (Upd g w wr) ∧ Aside0 (RowAt wr g n fc)) (fun i j _ => (intOf i).toNat + (intOf j).toNat)
  case atStart => exact ⟨m - a, b - m, f, rfl, rfl, by omega, by omega, by omega, by omega, ⟨RotI.begin (by omega) (by omega)⟩, ⟨Upd.refl _ _⟩, HR⟩
  case round =>
    obtain ⟨i, j, fc, rfl, rfl, i0, j0, hi, hj, HI, HU, HS⟩ := hrel
    have q3 : IntKind.i64.wrap ((m : Int) - (i : Int)) = ((m - i : Nat) : Int) := by rw [IntKind.wrap_i64]; omega
    by_cases heq : i = j
    · subst heq
      have HSw := Aside0.mk (fun cv => swapRange_calls (cap := cap) (m - i) m i fc cv wr HS.out (by omega) (by omega) hn)
      go_wp2_with (go_at_call 39; refine (HSw.out _).mono ?_; rintro e w1 ⟨rfl, hu, hs⟩)
      go_end0
      exact ⟨rfl, HU.out.trans hu, by rw [HI.out.eq hi] at hs; exact hs⟩
    · have hne : ¬ (i : Int) = (j : Int) := by omega
      by_cases hgt : j < i
      · have hgz : (j : Int) < (i : Int) := by omega
        have q4 : IntKind.i64.wrap ((i : Int) - (j : Int)) = ((i - j : Nat) : Int) := by rw [IntKind.wrap_i64]; omega
        have HSw := Aside0.mk (fun cv => swapRange_calls (cap := cap) (m - i) m j fc cv wr HS.out (by omega) (by omega) hn)
        go_wp2_with (go_at_call 39; refine (HSw.out _).mono ?_; rintro e w1 ⟨rfl, hu, hs⟩; have HU1 := Aside0.mk (HU.out.trans hu); have HS1 := Aside0.mk hs; clear hu hs)
        go_roundw
        case measure => simp [intOf]; omega
        case rel => exact ⟨i - j, j, _, rfl, rfl, by omega, j0, by omega, hj, ⟨HI.out.gt hi hgt⟩, HU1, HS1⟩
      · have hgz : ¬ (j : Int) < (i : Int) := by omega
        have q4 : IntKind.i64.wrap ((j : Int) - (i : Int)) = ((j - i : Nat) : Int) := by rw [IntKind.wrap_i64]; omega
        have q5 : IntKind.i64.wrap ((m : Int) + (j : Int)) = ((m + j : Nat) : Int) := by rw [IntKind.wrap_i64]; omega
        obtain ⟨s, hs⟩ : ∃ s, s = m + j := ⟨_, rfl⟩
        rw [← hs] at q5
        have q6 : IntKind.i64.wrap ((s : Int) - (i : Int)) = ((s - i : Nat) : Int) := by rw [IntKind.wrap_i64]; omega
        have HSw := Aside0.mk (fun cv => swapRange_calls (cap := cap) (m - i) (s - i) i fc cv wr HS.out (by omega) (by omega) hn)
        have SS := Aside0.mk hs
        clear hs
        go_wp2_with (go_at_call 39; refine (HSw.out _).mono ?_; rintro e w1 ⟨rfl, hu, hs⟩; have HU1 := Aside0.mk (HU.out.trans hu); have HS1 := Aside0.mk hs; clear hu hs)
        go_roundw
        case measure => simp [intOf]; omega
        case rel => exact ⟨i, j - i, _, rfl, rfl, i0, by omega, hi, by omega, ⟨HI.out.lt hi (by omega)⟩, HU1, ⟨by rw [← SS.out]; exact HS1.out⟩⟩
end Go.Proofs.Ytimdoddaaelfjaa.Ext
