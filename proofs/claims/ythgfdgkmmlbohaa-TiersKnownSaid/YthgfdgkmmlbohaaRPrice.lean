/- quitrentref11.Price, proved by walking its code. -/
import Derived.Test.YthgfdgkmmlbohaaRef3
import Derived.Test.YthgfdgkmmlbohaaPrice
import Derived.Deep.RegionHeld3
namespace Go.Proofs.Ythgfdgkmmlbohaa.Ext
open Go.RowKit Go.Proofs.YthgfdgkmmlbohaaW.PrintWords Go.Proofs.YthgfdgkmmlbohaaW.PrintLast Go.Proofs.YthgfdgkmmlbohaaW.PrintMore Go.Proofs.YthgfdgkmmlbohaaW.Hand Go.Proofs.Ythgfdgkmmlbohaa.PZ
set_option linter.unusedVariables false
theorem chk_all {ls : List S27} (h : chk ls = true) : ∀ t ∈ ls, 0 ≤ t.f0 ∧ t.f0 ≤ 1099511627776 ∧ 0 ≤ t.f1 ∧ t.f1 ≤ 1125899906842624 := by
  unfold chk at h
  rw [Bool.and_eq_true, decide_eq_true_eq] at h
  have key : ∀ (l : List S27) (was : Int), 0 ≤ was → chkFrom was l = true → ∀ t ∈ l, 0 ≤ t.f0 ∧ t.f0 ≤ 1099511627776 ∧ 0 ≤ t.f1 ∧ t.f1 ≤ 1125899906842624 := by
    intro l
    induction l with
    | nil => intro was _ _ t ht; cases ht
    | cons t l ih =>
      intro was hw hc x hx
      cases l with
      | nil =>
        simp only [chkFrom, okP, Bool.and_eq_true, decide_eq_true_eq, beq_iff_eq] at hc
        simp only [List.mem_singleton] at hx
        subst hx
        omega
      | cons u l =>
        simp only [chkFrom, okP, Bool.and_eq_true, decide_eq_true_eq] at hc
        rcases List.mem_cons.1 hx with rfl | hx
        · omega
        · exact ih t.f0 (by omega) hc.2 x hx
  exact key ls 0 (by omega) h.2
theorem atL_range {ls : List S27} (h : ∀ t ∈ ls, 0 ≤ t.f1 ∧ t.f1 ≤ 1125899906842624) (n : Int) : 0 ≤ atL ls n ∧ atL ls n ≤ 1125899906842624 := by
  induction ls with
  | nil => simp [atL]
  | cons t ls ih =>
    unfold atL
    split
    · exact h t (by simp)
    · exact ih (fun u hu => h u (by simp [hu]))
def endR (n : Int) (t : S27) : Int := if t.f0 = 0 then n else if t.f0 < n then t.f0 else n
/-- The rest of the sum, from a tier on, so many units being done. -/
def rtot (ls : List S27) (n : Int) : List S27 → Int → Int
  | [], _ => 0
  | t :: r, done => if done < n then (endR n t - done) * atL ls (endR n t) + rtot ls n r (endR n t) else 0
def rpriceOf (s : Int) : Int × Int := if I64 s ∧ 0 ≤ s then (s, 0) else (0, 30)
def rpriceL (ls : List S27) (n : Int) : Int × Int := if chk ls = true ∧ 0 ≤ n then rpriceOf (rtot ls n ls 0) else (0, 1)
theorem term_bound (a b : Int) (ha0 : -9223372036854775808 ≤ a) (ha1 : a ≤ 9223372036854775808) (hb0 : 0 ≤ b) (hb1 : b ≤ 1125899906842624) : -10384593717069655257060992658440192 ≤ a * b ∧ a * b ≤ 10384593717069655257060992658440192 := by
  have h1 : a * b ≤ 9223372036854775808 * b := Int.mul_le_mul_of_nonneg_right ha1 hb0
  have h2 : -9223372036854775808 * b ≤ a * b := Int.mul_le_mul_of_nonneg_right ha0 hb0
  omega
set_option maxRecDepth 100000 in
set_option maxHeartbeats 6400000 in
theorem RPrice_yes (A : Option Addr) (c : Nat) (ls : List S27) (n : Int) (w : World) (hC : Kd.C k27 w A ls.length ls) (hcap : ls.length ≤ c) (hk : chk ls = true) (hn0 : 0 ≤ n) (hn1 : n < 9223372036854775808) :
    Calls Try.prog 9 #[.slice A ls.length c, .int .i64 n] w fun e w' => e = .returned (.tuple #[.int .i64 (rpriceOf (rtot ls n ls 0)).1, .int .i64 (rpriceOf (rtot ls n ls 0)).2]) ∧ Below w.heap.size w w' := by
  have hall := chk_all hk
  obtain ⟨hl4, _⟩ := chk_range hk
  have hat := fun n => atL_range (ls := ls) (fun t ht => (hall t ht).2.2) n
  have kc := Aside0.mk (quitrentref11_Check.calls A c ls true w hC hcap (by unfold quitrentref11_Check.f; rw [hk]))
  have HC := Aside0.mk hC
  have HALL := Aside0.mk hall
  have HAT := Aside0.mk hat
  have hnn : decide (n < 0) = false := decide_eq_false (by omega)
  have HCAP := Aside0.mk hcap
  clear hC hall hk hat hcap
  go_enter Try.func9, Try.ntmps9
  go_wp2_with fail
  refine kc.out.mono ?_
  rintro e w1 ⟨rfl, hd⟩
  have HB := Aside0.mk hd.below
  clear hd kc
  go_wp2_with fail
  go_loopw [7, 8] (fun d i wr => ∃ (k : Nat) (D S : Int), k ≤ ls.length ∧ i = .int .i64 k ∧ d = .int .i64 D ∧ 0 ≤ D ∧ D < 9223372036854775808 ∧ Aside0 (rtot ls n ls 0 = S + rtot ls n (ls.drop k) D) ∧ Aside0 (-10384593717069655257060992658440192 * (k : Int) ≤ S ∧ S ≤ 10384593717069655257060992658440192 * (k : Int)) ∧ Aside0 (Blk wr w1.heap.size (bigC S)) ∧ Aside0 (Below w.heap.size w wr)) (fun _ i _ => ls.length - (intOf i).toNat)
  case atStart => exact ⟨0, 0, 0, by omega, rfl, rfl, by omega, by omega, ⟨by simp⟩, ⟨by omega⟩, ⟨Blk.new rfl⟩, ⟨below_alloc HB.out _⟩⟩
  case round =>
    obtain ⟨k, D, S, hk, rfl, rfl, hD0, hD1, HT, HSB, HS1, HB1⟩ := hrel
    by_cases hlt : k < ls.length ∧ D < n
    · obtain ⟨hlt, hDn⟩ := hlt
      have hCr := Kd.C_below HC.out HB1.out
      obtain ⟨ad, e1, hx0, hx1⟩ := at_T27 hCr k (by omega) (by omega)
      cases e1
      simp only [Int.toNat_natCast] at hx0
      have HCR := Aside0.mk hCr
      have hmem : rd_T27 ls k ∈ ls := by
        simp only [rd_T27, Int.toNat_natCast, List.getD_eq_getElem?_getD, List.getElem?_eq_getElem hlt]
        exact List.getElem_mem hlt
      have hdr := drop27 ls k hlt
      have hf := HALL.out _ hmem
      clear hmem hx1 hCr
      obtain ⟨⟨f0, f1⟩, ht⟩ : ∃ t, rd_T27 ls k = t := ⟨_, rfl⟩
      rw [ht] at hx0 hdr hf
      dsimp only at hx0 hf
      obtain ⟨hf0, hf1, _, _⟩ := hf
      obtain ⟨E, hE⟩ : ∃ E, endR n ⟨f0, f1⟩ = E := ⟨_, rfl⟩
      have hE0 : 0 ≤ E := by rw [← hE]; unfold endR; dsimp only; split <;> (try split) <;> omega
      have hE1 : E < 9223372036854775808 := by rw [← hE]; unfold endR; dsimp only; split <;> (try split) <;> omega
      obtain ⟨X, hX⟩ : ∃ X, E - D = X := ⟨_, rfl⟩
      obtain ⟨P, hP⟩ : ∃ P, atL ls E = P := ⟨_, rfl⟩
      have hPr := HAT.out E
      rw [hP] at hPr
      have hTn : Aside0 (rtot ls n ls 0 = (S + X * P) + rtot ls n (ls.drop (k + 1)) E) := ⟨by
        rw [HT.out, hdr]
        simp only [rtot]
        rw [if_pos hDn, hE, hX, hP, Int.add_assoc]⟩
      have hSn : Aside0 (-10384593717069655257060992658440192 * ((k + 1 : Nat) : Int) ≤ S + X * P ∧ S + X * P ≤ 10384593717069655257060992658440192 * ((k + 1 : Nat) : Int)) := ⟨by
        have h1 := term_bound X P (by omega) (by omega) hPr.1 hPr.2
        have h2 := HSB.out
        generalize X * P = Y at h1 ⊢
        omega⟩
      have k1 := Aside0.mk (fun w => refOf X (by unfold I64; omega) w)
      have k2 := Aside0.mk (fun w => refOf P (by unfold I64; omega) w)
      have k0 := Aside0.mk (fun w (h : Kd.C k27 w (some ad) ls.length ls) => quitrentref11_At.calls (some ad) c ls E P w h HCAP.out (by unfold quitrentref11_At.f; rw [hP]))
      have k3 := Aside0.mk (fun w => refMul X P w)
      have k4 := Aside0.mk (fun w => refAdd S (X * P) w)
      obtain ⟨d0, d1, d2, d3, hv, hc⟩ := big_named S
      obtain ⟨o0, o1, o2, o3, hv2, hc2⟩ := big_named (S + X * P)
      have HC2 := Aside0.mk hc2
      obtain ⟨x1, hx1⟩ : ∃ x, bigV X = x := ⟨_, rfl⟩
      obtain ⟨x2, hx2⟩ : ∃ x, bigV P = x := ⟨_, rfl⟩
      obtain ⟨x3, hx3⟩ : ∃ x, bigV (X * P) = x := ⟨_, rfl⟩
      rw [hx1] at k1 k3
      rw [hx2] at k2 k3
      rw [hx3] at k3 k4
      rw [hv, hv2] at k4
      rw [hc] at HS1
      have hc3 : (0 = f0 ∧ n = E) ∨ ((f0 != 0) = true ∧ f0 < n ∧ f0 = E) ∨ ((f0 != 0) = true ∧ n ≤ f0 ∧ n = E) := by
        rw [← hE]; unfold endR; dsimp only
        by_cases h0 : f0 = 0
        · rw [if_pos h0]; exact .inl ⟨h0.symm, rfl⟩
        · rw [if_neg h0]
          have h1 : (f0 != 0) = true := bne_iff_ne.2 h0
          split
          · exact .inr (.inl ⟨h1, by assumption, rfl⟩)
          · exact .inr (.inr ⟨h1, by omega, rfl⟩)
      clear hv hv2 hx1 hx2 hx3 hc hc2 hP hE ht hdr hPr
      have q := HS1.out
      have q0 := q.cell 0
      have q1 := q.cell 1
      have q2 := q.cell 2
      have q3 := q.cell 3
      simp at q0 q1 q2 q3
      clear q
      have HX := Aside0.mk hX
      clear hX
      have STEP : ∀ wq, Blk wq w1.heap.size (.cells #[.int .u64 d0, .int .u64 d1, .int .u64 d2, .int .u64 d3] 44) → (wq.cell? ⟨w1.heap.size, 0, none⟩ = some (.int .u64 d0) ∧ wq.cell? ⟨w1.heap.size, 1, none⟩ = some (.int .u64 d1) ∧ wq.cell? ⟨w1.heap.size, 2, none⟩ = some (.int .u64 d2) ∧ wq.cell? ⟨w1.heap.size, 3, none⟩ = some (.int .u64 d3)) ∧ wq.frozen? ⟨w1.heap.size, 0, none⟩ = false ∧ wq.frozen? ⟨w1.heap.size, 1, none⟩ = false ∧ wq.frozen? ⟨w1.heap.size, 2, none⟩ = false ∧ wq.frozen? ⟨w1.heap.size, 3, none⟩ = false := fun wq h =>
        ⟨⟨(h.cell 0).trans rfl, (h.cell 1).trans rfl, (h.cell 2).trans rfl, (h.cell 3).trans rfl⟩, h.free 0, h.free 1, h.free 2, h.free 3⟩
      have STEP := Aside0.mk STEP
      have KB := Aside0.mk (HS1.out.drew)
      have KW := Aside0.mk (below_drew (Below.refl wr.heap.size wr))
      have HXW : Aside0 (IntKind.i64.wrap (E - D) = X) := ⟨by rw [IntKind.wrap_i64, ← HX.out]; omega⟩
      rcases hc3 with ⟨rfl, rfl⟩ | ⟨hne, hfn, rfl⟩ | ⟨hne, hfn, rfl⟩
      all_goals
        go_wp2_with fail
        have hXw := HXW.out
        go_region_with (first
          | (go_at_call 22; (with_reducible refine (k1.out _).mono ?_); rintro e wq ⟨rfl, hb⟩; (have KB' := Aside0.mk (Blk.below KB.out hb)); (have KW' := Aside0.mk (below_step KW.out hb)); (obtain ⟨⟨p0, p1, p2, p3⟩, z0, z1, z2, z3⟩ := STEP.out _ KB'.out); clear KB KW; (have KB := KB'); (have KW := KW'); clear KB' KW' hb)
          | (go_at_call 22; (with_reducible refine (k2.out _).mono ?_); rintro e wq ⟨rfl, hb⟩; (have KB' := Aside0.mk (Blk.below KB.out hb)); (have KW' := Aside0.mk (below_step KW.out hb)); (obtain ⟨⟨p0, p1, p2, p3⟩, z0, z1, z2, z3⟩ := STEP.out _ KB'.out); clear KB KW; (have KB := KB'); (have KW := KW'); clear KB' KW' hb)
          | (go_at_call 14; (with_reducible refine (k0.out _ ?_).mono ?_); (exact Kd.C_below HCR.out KW.out); rintro e wq ⟨rfl, hd⟩; have hb := hd.below; clear hd; (have KB' := Aside0.mk (Blk.below KB.out hb)); (have KW' := Aside0.mk (below_step KW.out hb)); (obtain ⟨⟨p0, p1, p2, p3⟩, z0, z1, z2, z3⟩ := STEP.out _ KB'.out); clear KB KW; (have KB := KB'); (have KW := KW'); clear KB' KW' hb)
          | (go_at_call 21; (with_reducible refine (k3.out _).mono ?_); rintro e wq ⟨rfl, hb⟩; (have KB' := Aside0.mk (Blk.below KB.out hb)); (have KW' := Aside0.mk (below_step KW.out hb)); (obtain ⟨⟨p0, p1, p2, p3⟩, z0, z1, z2, z3⟩ := STEP.out _ KB'.out); clear KB KW; (have KB := KB'); (have KW := KW'); clear KB' KW' hb)
          | (go_at_call 20; (with_reducible refine (k4.out _).mono ?_); rintro e wz ⟨rfl, hb⟩; (have KB' := Aside0.mk (Blk.below KB.out hb)); (have KW' := Aside0.mk (below_step KW.out hb)); (obtain ⟨⟨p0, p1, p2, p3⟩, z0, z1, z2, z3⟩ := STEP.out _ KB'.out); clear KB KW; (have KB := KB'); (have KW := KW'); clear KB' KW' hb))
        all_goals
          have HS2 : Aside0 (Blk ((((wz.setCell ⟨w1.heap.size, 0, none⟩ (.int .u64 o0)).setCell ⟨w1.heap.size, 1, none⟩ (.int .u64 o1)).setCell ⟨w1.heap.size, 2, none⟩ (.int .u64 o2)).setCell ⟨w1.heap.size, 3, none⟩ (.int .u64 o3)) w1.heap.size (bigC (S + X * P))) := ⟨by rw [HC2.out]; exact Blk.put4 KB.out _ _ _ _⟩
          have HB2 : Aside0 (Below w.heap.size w ((((wz.setCell ⟨w1.heap.size, 0, none⟩ (.int .u64 o0)).setCell ⟨w1.heap.size, 1, none⟩ (.int .u64 o1)).setCell ⟨w1.heap.size, 2, none⟩ (.int .u64 o2)).setCell ⟨w1.heap.size, 3, none⟩ (.int .u64 o3))) := by
            have h0 := below_step HB1.out KW.out
            have h1 := HB.out.size
            exact ⟨below_set (below_set (below_set (below_set h0 h1) h1) h1) h1⟩
          go_wp2_with fail
          go_roundw
          case rel => exact ⟨k + 1, _, S + X * P, by omega, by go_num, rfl, hE0, hE1, hTn, hSn, HS2, HB2⟩
          case measure => simp [intOf]; omega
    · have hrest : rtot ls n (ls.drop k) D = 0 := by
        by_cases h1 : k < ls.length
        · rw [drop27 ls k h1]
          simp only [rtot]
          rw [if_neg (by omega)]
        · rw [List.drop_of_length_le (by omega)]; rfl
      have HT2 : Aside0 (rtot ls n ls 0 = S) := ⟨by rw [HT.out, hrest, Int.add_zero]⟩
      have k1 := Aside0.mk (fun w => refSmall S w)
      have hb := HSB.out
      have hsm := small_mod S (by omega) (by omega)
      unfold small at hsm
      obtain ⟨d0, d1, d2, d3, hv, hc⟩ := big_named S
      rw [hv] at k1
      rw [hc] at HS1
      have q := HS1.out
      have q0 := q.cell 0
      have q1 := q.cell 1
      have q2 := q.cell 2
      have q3 := q.cell 3
      simp at q0 q1 q2 q3
      have hcond : k < ls.length ∧ n ≤ D ∨ ls.length ≤ k := by omega
      clear hv hc hb q hrest hlt HT HSB
      by_cases hi : (S - wrap64 S) % 340282366920938463463374607431768211456 = 0
      · simp only [if_pos hi, decide_eq_true hi] at k1 hsm
        have hS : I64 S ∧ wrap64 S = S := by
          by_cases h : I64 S
          · rw [if_pos h] at hsm
            exact ⟨h, by injection hsm with h1 h2; exact h1.symm⟩
          · rw [if_neg h] at hsm
            injection hsm with h1 h2
            cases h2
        rw [hS.2] at k1
        have hI := hS.1
        clear hi hsm hS
        by_cases h0 : S < 0
        · have hres : Aside0 (rpriceOf S = (0, 30)) := ⟨by unfold rpriceOf; rw [if_neg (by omega)]⟩
          clear hI
          rcases hcond with ⟨h1, h2⟩ | h1
          all_goals
            go_wp2_with (go_at_call 23; refine (k1.out _).mono ?_; rintro e wq ⟨rfl, hb⟩; have B1 := Aside0.mk (below_step HB1.out hb); clear hb)
            go_ret2
            exact ⟨by rw [HT2.out, hres.out]; rfl, B1.out⟩
        · have hres : Aside0 (rpriceOf S = (S, 0)) := ⟨by unfold rpriceOf; rw [if_pos ⟨hI, by omega⟩]⟩
          clear hI
          rcases hcond with ⟨h1, h2⟩ | h1
          all_goals
            go_wp2_with (go_at_call 23; refine (k1.out _).mono ?_; rintro e wq ⟨rfl, hb⟩; have B1 := Aside0.mk (below_step HB1.out hb); clear hb)
            go_ret2
            exact ⟨by rw [HT2.out, hres.out]; rfl, B1.out⟩
      · simp only [if_neg hi, decide_eq_false hi] at k1 hsm
        have hI : ¬ I64 S := fun h => by
          rw [if_pos h] at hsm
          injection hsm with h1 h2
          cases h2
        have hres : Aside0 (rpriceOf S = (0, 30)) := ⟨by unfold rpriceOf; rw [if_neg (fun h => hI h.1)]⟩
        clear hi hsm hI
        rcases hcond with ⟨h1, h2⟩ | h1
        all_goals
          go_wp2_with (go_at_call 23; refine (k1.out _).mono ?_; rintro e wq ⟨rfl, hb⟩; have B1 := Aside0.mk (below_step HB1.out hb); clear hb)
          go_ret2
          exact ⟨by rw [HT2.out, hres.out]; rfl, B1.out⟩
set_option maxRecDepth 100000 in
theorem RPrice_no (A : Option Addr) (c : Nat) (ls : List S27) (n : Int) (w : World) (hC : Kd.C k27 w A ls.length ls) (hcap : ls.length ≤ c) (hk : chk ls = false ∨ n < 0) :
    Calls Try.prog 9 #[.slice A ls.length c, .int .i64 n] w fun e w' => e = .returned (.tuple #[.int .i64 0, .int .i64 1]) ∧ Below w.heap.size w w' := by
  have kc := Aside0.mk (quitrentref11_Check.calls A c ls (chk ls) w hC hcap rfl)
  clear hC hcap
  have key : ∀ r : Bool, chk ls = r → (r = false ∨ n < 0) → Calls Try.prog 9 #[.slice A ls.length c, .int .i64 n] w fun e w' => e = .returned (.tuple #[.int .i64 0, .int .i64 1]) ∧ Below w.heap.size w w' := by
    intro r hr hrn
    rw [hr] at kc
    clear hk hr
    have hd : r = false ∨ (r = true ∧ decide (n < 0) = true) := by
      cases r with
      | false => exact .inl rfl
      | true => rcases hrn with h | h; cases h; exact .inr ⟨rfl, decide_eq_true h⟩
    clear hrn
    rcases hd with rfl | ⟨rfl, hd⟩
    all_goals
      go_enter Try.func9, Try.ntmps9
      go_wp2_with fail
      refine kc.out.mono ?_
      rintro e w1 ⟨rfl, hb⟩
      have HB := Aside0.mk hb.below
      clear hb kc
      go_wp2_with fail
      go_ret2
      exact ⟨rfl, HB.out⟩
  exact key _ rfl hk
def quitrentref11_Price.f (ls : List S27) (n : Int) : Option (Int × Int) := if I64 n then some (rpriceL ls n) else none
theorem quitrentref11_Price.calls (A0 : Option Addr) (c0 : Nat) (l0 : List S27) (a1 r1 r2 : Int) (w : World) (hr0 : Kd.C k27 w A0 l0.length l0) (hc0 : l0.length ≤ c0) (h : quitrentref11_Price.f l0 a1 = some (r1, r2)) :
    Calls Try.prog 9 #[.slice A0 l0.length c0, .int .i64 a1] w fun e w' => e = .returned (.tuple #[.int .i64 r1, .int .i64 r2]) ∧ Below w.heap.size w w' := by
  unfold quitrentref11_Price.f at h
  by_cases h1 : I64 a1
  · rw [if_pos h1] at h
    have h := Option.some.inj h
    unfold I64 at h1
    by_cases h2 : chk l0 = true ∧ 0 ≤ a1
    · unfold rpriceL at h
      rw [if_pos h2] at h
      have := RPrice_yes A0 c0 l0 a1 w hr0 hc0 h2.1 h2.2 (by omega)
      rw [h] at this
      exact this
    · unfold rpriceL at h
      rw [if_neg h2] at h
      injection h with h3 h4
      subst h3; subst h4
      refine RPrice_no A0 c0 l0 a1 w hr0 hc0 ?_
      cases hc : chk l0 with
      | false => exact .inl rfl
      | true => exact .inr (Int.not_le.1 (fun h3 => h2 ⟨hc, h3⟩))
  · rw [if_neg h1] at h; cases h
end Go.Proofs.Ythgfdgkmmlbohaa.Ext
