/- Contracts of quitrentref10's Sum and Part, proved by walking their code. -/
import Derived.Test.YtimdoddaaelfjaaRef2
namespace Go.Proofs.Ytimdoddaaelfjaa.Ext
open Go.RowKit Go.Proofs.YtimdoddaaelfjaaW.PrintWords Go.Proofs.YtimdoddaaelfjaaW.PrintLast Go.Proofs.YtimdoddaaelfjaaW.PrintMore Go.Proofs.YtimdoddaaelfjaaW.Hand
set_option linter.unusedVariables false
/-- The cells of a number. -/
def bigC (s : Int) : Obj := .cells #[.int .u64 (s % 4294967296), .int .u64 (s / 4294967296 % 4294967296), .int .u64 (s / 4294967296 / 4294967296 % 4294967296), .int .u64 (s / 4294967296 / 4294967296 / 4294967296 % 4294967296)] 43
theorem big_named (s : Int) : ∃ d0 d1 d2 d3 : Int, bigV s = .agg #[.int .u64 d0, .int .u64 d1, .int .u64 d2, .int .u64 d3] ∧ bigC s = .cells #[.int .u64 d0, .int .u64 d1, .int .u64 d2, .int .u64 d3] 43 := ⟨_, _, _, _, rfl, rfl⟩
theorem small_mod (s : Int) (h1 : -170141183460469231731687303715884105728 ≤ s) (h2 : s < 170141183460469231731687303715884105728) :
    small s = (if (s - wrap64 s) % 340282366920938463463374607431768211456 = 0 then wrap64 s else 0, if (s - wrap64 s) % 340282366920938463463374607431768211456 = 0 then 0 else 30) := by
  unfold small
  by_cases hi : I64 s
  · have e := wrap64_same s hi
    rw [e, if_pos hi, if_pos (by omega), if_pos (by omega)]
  · have h3 : I64 (wrap64 s) := by unfold I64 wrap64; omega
    have h4 : wrap64 s ≠ s := fun e => hi (e ▸ h3)
    have h5 : ¬ (s - wrap64 s) % 340282366920938463463374607431768211456 = 0 := by
      unfold I64 at h3
      generalize wrap64 s = x at *
      omega
    rw [if_neg hi, if_neg h5, if_neg h5]
def quitrentref10_Sum.f (l : List Int) : Option (Int × Int) := money_Sum.f l
set_option maxRecDepth 100000 in
set_option maxHeartbeats 3200000 in
theorem quitrentref10_Sum.calls (A0 : Option Addr) (c0 : Nat) (l0 : List Int) (r1 r2 : Int) (w : World) (hr0 : Kd.C (Kd.int .i64) w A0 l0.length l0) (hc0 : l0.length ≤ c0) (h : quitrentref10_Sum.f l0 = some (r1, r2)) :
    Calls Try.prog 19 #[.slice A0 l0.length c0] w fun e w' => e = .returned (.tuple #[.int .i64 r1, .int .i64 r2]) ∧ Below w.heap.size w w' := by
  unfold quitrentref10_Sum.f money_Sum.f at h
  split at h
  case isFalse => cases h
  case isTrue hab =>
  obtain ⟨hall, hlen⟩ := hab
  have hs := Option.some.inj h
  have HS := Aside0.mk hs
  have HR0 := Aside0.mk hr0
  have HALL := Aside0.mk hall
  clear h hs hr0 hc0 hall
  go_enter Try.func19, Try.ntmps19
  go_wp2_with fail
  go_loopw [5] (fun i wr => ∃ k : Nat, k ≤ l0.length ∧ i = .int .i64 k ∧ Aside0 (Blk wr w.heap.size (bigC (l0.take k).sum)) ∧ Aside0 (Below w.heap.size w wr)) (fun i _ => l0.length - (intOf i).toNat)
  case atStart => exact ⟨0, by omega, rfl, ⟨Blk.new rfl⟩, ⟨below_alloc (Below.refl _ _) _⟩⟩
  case round =>
    obtain ⟨k, hk, rfl, HS1, HB1⟩ := hrel
    by_cases hlt : k < l0.length
    · obtain ⟨ad1, e1, hx1⟩ := Kd.at_int HR0.out k (by omega) (by omega)
      cases e1
      simp only [Int.toNat_natCast] at hx1
      obtain ⟨a, HA⟩ : ∃ a, Aside0 (a = rd l0 k) := ⟨_, ⟨rfl⟩⟩
      rw [← HA.out] at hx1
      have ha : I64 a := by rw [HA.out]; exact HALL.out _ (rd_mem l0 k hlt)
      have HST : Aside0 ((l0.take (k + 1)).sum = (l0.take k).sum + a) := ⟨by rw [HA.out]; exact sum_take_one l0 k hlt⟩
      have hxw := (HB1.out.cell (World.block_lt_of_cell? w _ hx1)).trans hx1
      clear hx1
      have k1 := Aside0.mk (fun w => refOf a ha w)
      have k2 := Aside0.mk (fun w => refAdd (l0.take k).sum a w)
      obtain ⟨s, hs⟩ : ∃ s, (l0.take k).sum = s := ⟨_, rfl⟩
      rw [hs] at HS1 HST k2
      obtain ⟨d0, d1, d2, d3, hv, hc⟩ := big_named s
      obtain ⟨o0, o1, o2, o3, hv2, hc2⟩ := big_named (s + a)
      have HC2 := Aside0.mk hc2
      obtain ⟨x, hx⟩ : ∃ x, bigV a = x := ⟨_, rfl⟩
      rw [hv, hv2, hx] at k2
      rw [hx] at k1
      rw [hc] at HS1
      clear hv hv2 hx hc hs hc2 ha
      have q := HS1.out
      have q0 := q.cell 0
      have q1 := q.cell 1
      have q2 := q.cell 2
      have q3 := q.cell 3
      simp at q0 q1 q2 q3
      clear q
      go_wp2_with fail
      go_region_with (first
        | (go_at_call 23; refine (k1.out _).mono ?_; rintro e w1 ⟨rfl, hb⟩; have Q1 := Aside0.mk (Blk.below (Blk.drew HS1.out) hb); have p0 := Q1.out.cell 0; have p1 := Q1.out.cell 1; have p2 := Q1.out.cell 2; have p3 := Q1.out.cell 3; simp at p0 p1 p2 p3; have B1 := Aside0.mk (below_step (below_drew HB1.out) hb); clear hb)
        | (go_at_call 21; refine (k2.out _).mono ?_; rintro e w2 ⟨rfl, hb⟩; have Q2 := Aside0.mk (Blk.below Q1.out hb); have p0 := Q2.out.cell 0; have p1 := Q2.out.cell 1; have p2 := Q2.out.cell 2; have p3 := Q2.out.cell 3; have z0 := Q2.out.free 0; have z1 := Q2.out.free 1; have z2 := Q2.out.free 2; have z3 := Q2.out.free 3; simp at p0 p1 p2 p3; have B2 := Aside0.mk (below_step B1.out hb); clear hb))
      all_goals
        have HS2 : Aside0 (Blk ((((w2.setCell ⟨w.heap.size, 0, none⟩ (.int .u64 o0)).setCell ⟨w.heap.size, 1, none⟩ (.int .u64 o1)).setCell ⟨w.heap.size, 2, none⟩ (.int .u64 o2)).setCell ⟨w.heap.size, 3, none⟩ (.int .u64 o3)) w.heap.size (bigC (l0.take (k + 1)).sum)) := ⟨by rw [HST.out, HC2.out]; exact Blk.put4 Q2.out _ _ _ _⟩
        have HB2 : Aside0 (Below w.heap.size w ((((w2.setCell ⟨w.heap.size, 0, none⟩ (.int .u64 o0)).setCell ⟨w.heap.size, 1, none⟩ (.int .u64 o1)).setCell ⟨w.heap.size, 2, none⟩ (.int .u64 o2)).setCell ⟨w.heap.size, 3, none⟩ (.int .u64 o3))) := ⟨below_set (below_set (below_set (below_set B2.out (by simp)) (by simp)) (by simp)) (by simp)⟩
        go_wp2_with fail
        go_roundw
        case rel => exact ⟨k + 1, by omega, by go_num, HS2, HB2⟩
        case measure => simp [intOf]; omega
    · obtain rfl : k = l0.length := by omega
      rw [List.take_length] at HS1
      have k1 := Aside0.mk (fun w => refSmall l0.sum w)
      have hb := sum_small l0 HALL.out
      have e3 := HS.out
      have hsm : small l0.sum = (if (l0.sum - wrap64 l0.sum) % 340282366920938463463374607431768211456 = 0 then wrap64 l0.sum else 0, if (l0.sum - wrap64 l0.sum) % 340282366920938463463374607431768211456 = 0 then 0 else 30) := small_mod _ (by omega) (by omega)
      obtain ⟨d0, d1, d2, d3, hv, hc⟩ := big_named l0.sum
      rw [hv] at k1
      rw [hc] at HS1
      rw [e3] at hsm
      clear hv hc hb e3
      have q := HS1.out
      have q0 := q.cell 0
      have q1 := q.cell 1
      have q2 := q.cell 2
      have q3 := q.cell 3
      simp at q0 q1 q2 q3
      clear q
      by_cases hi : (l0.sum - wrap64 l0.sum) % 340282366920938463463374607431768211456 = 0
      · simp only [if_pos hi, decide_eq_true hi, Prod.mk.injEq] at k1 hsm
        obtain ⟨h1, rfl⟩ := hsm
        rw [← h1] at k1
        clear hi HS h1
        go_wp2_with (go_at_call 30; refine (k1.out _).mono ?_; rintro e w1 ⟨rfl, hb⟩; have B1 := Aside0.mk (below_step HB1.out hb); clear hb)
        go_ret2
        exact ⟨rfl, B1.out⟩
      · simp only [if_neg hi, decide_eq_false hi, Prod.mk.injEq] at k1 hsm
        obtain ⟨rfl, rfl⟩ := hsm
        clear hi HS
        go_wp2_with (go_at_call 30; refine (k1.out _).mono ?_; rintro e w1 ⟨rfl, hb⟩; have B1 := Aside0.mk (below_step HB1.out hb); clear hb)
        go_ret2
        exact ⟨rfl, B1.out⟩
end Go.Proofs.Ytimdoddaaelfjaa.Ext
