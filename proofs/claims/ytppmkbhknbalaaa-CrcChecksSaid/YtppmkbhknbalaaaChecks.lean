/- CrcChecks, walked. -/
import Derived.Test.YtppmkbhknbalaaaWord
import Derived.Deep.Matrix
namespace Go.Proofs.Ytppmkbhknbalaaa.Ext
open Go.RowKit Go.Proofs.YtppmkbhknbalaaaW.PrintWords Go.Proofs.YtppmkbhknbalaaaW.PrintLast Go.Proofs.YtppmkbhknbalaaaW.PrintMore Go.Proofs.YtppmkbhknbalaaaW.Hand
set_option linter.unusedVariables false
theorem infoU8' : (Try.prog.info? 5).map (fun i => (i.zero, i.size, i.bytes)) = some (some (.int .u8 0), 1, 1) := by kernel_rfl
theorem flat_one (l : List (List Int)) (k : Nat) (h : k < l.length) : (l.take (k + 1)).flatten = (l.take k).flatten ++ l.getD k [] := by
  rw [take_one l [] k h]; simp
theorem flat_mid (l : List (List Int)) (k : Nat) (h : k < l.length) : (l.flatten.take ((l.take k).flatten.length + (l.getD k []).length)).drop (l.take k).flatten.length = l.getD k [] := by
  have e : l.flatten = (l.take k).flatten ++ (l.getD k [] ++ (l.drop (k + 1)).flatten) := by
    rw [← List.append_assoc, ← flat_one l k h, ← List.flatten_append, List.take_append_drop]
  rw [e]; simp [List.take_append]
theorem flat_le (l : List (List Int)) (k : Nat) (h : k ≤ l.length) : (l.take k).flatten.length ≤ l.flatten.length := by
  conv => rhs; rw [← List.take_append_drop k l]
  rw [List.flatten_append, List.length_append]; omega
theorem getD_mem (l : List (List Int)) (k : Nat) (h : k < l.length) : l.getD k [] ∈ l := by
  rw [List.getD_eq_getElem?_getD, List.getElem?_eq_getElem h]; exact List.getElem_mem h
-- HERE
set_option maxRecDepth 100000 in
set_option maxHeartbeats 6400000 in
theorem Checks_any (A0 : Option Addr) (c0 : Nat) (l0 : List (List Int)) (w : World) (hr : Kd.C (Kd.slice 5 (Kd.int .u8)) w A0 l0.length l0) (hc : l0.length ≤ c0) (hb : ∀ p ∈ l0, ∀ c ∈ p, IsByte c) :
    Calls Try.prog 3 #[.slice A0 l0.length c0] w fun e w' => e = .returned (.bool true) ∧ Below w.heap.size w w' := by
  have HR := Aside0.mk hr
  have HBY := Aside0.mk hb
  clear hr hb
  by_cases hlen : l0.length ≤ 20
  case neg =>
    have h1 : (20 : Int) < (l0.length : Int) := by omega
    go_enter Try.func3, Try.ntmps3
    go_wp2
    go_ret
    exact ⟨rfl, Below.refl _ _⟩
  have h1 : ¬ (20 : Int) < (l0.length : Int) := by omega
  go_enter Try.func3, Try.ntmps3
  go_wp2
  go_loopw [3, 4] (fun v i wr => ∃ k : Nat, k ≤ l0.length ∧ i = .int .i64 k ∧ Aside0 (Kd.R (Kd.int .u8) 5 wr w.heap.size (fun _ => True) v (l0.take k).flatten) ∧ Aside0 (Below w.heap.size w wr) ∧ Aside0 ((l0.take k).flatten.length ≤ 2000 * k)) (fun _ i _ => l0.length - (intOf i).toNat)
  case atStart => exact ⟨0, by omega, rfl, ⟨Kd.R_nil _ _ _ _ _⟩, ⟨Below.refl _ _⟩, ⟨by simp⟩⟩
  case round =>
    obtain ⟨k, hk, rfl, HV, HB, HL⟩ := hrel
    by_cases hlt : k < l0.length
    · have HRW := Aside0.mk (Kd.C_below HR.out HB.out)
      obtain ⟨ad, A1, c1, e1, hc1, hl1, hr1⟩ := at_rows HRW.out k (by omega) (by omega)
      cases e1
      simp only [Int.toNat_natCast] at hc1 hl1 hr1
      obtain ⟨l1, HL1⟩ : ∃ l1, Aside0 (l1 = l0.getD k []) := ⟨_, ⟨rfl⟩⟩
      rw [← HL1.out] at hc1 hl1 hr1
      have HR1 := Aside0.mk hr1
      have HF : Aside0 ((l0.take (k + 1)).flatten = (l0.take k).flatten ++ l1) := ⟨by rw [HL1.out]; exact flat_one l0 k hlt⟩
      clear hr1
      by_cases h2 : l1.length ≤ 2000
      · have h3 : ¬ (2000 : Int) < (l1.length : Int) := by omega
        have hl := HL.out
        obtain ⟨ys, HYS⟩ : ∃ ys, Aside0 (ys = (l0.take k).flatten) := ⟨_, ⟨rfl⟩⟩
        rw [← HYS.out] at HV HF hl
        have HLL : Aside0 ((ys.length + l1.length) * 1 ≤ 140737488355328) := ⟨by omega⟩
        have HL2 : Aside0 (ys.length + l1.length ≤ 2000 * (k + 1)) := ⟨by omega⟩
        clear hl HL
        go_wp2_with (at_builtin; refine Kd.R_append_row (Value.int .u8) (0 : Int) (w0 := w) w.heap.size rfl (.tmp 23) (.tmp 27) 23 5 (.int .u8 0) 1 rfl Try.underlying23 infoU8' rfl (by decide) _ ys l1 A1 l1.length c1 (fun _ => True) rfl rfl (fun _ _ => trivial) HV.out HR1.out HB.out HB.out.size HLL.out ?_; intro v1 w2 ho1 hb1 hg1 hat1; have HV1 := Aside0.mk ho1; have HB1 := Aside0.mk hb1; clear ho1 hb1 hg1 hat1)
        go_roundw
        case rel => exact ⟨k + 1, by omega, by go_num, ⟨by rw [HF.out]; exact HV1.out⟩, HB1, ⟨by rw [HF.out, List.length_append]; exact HL2.out⟩⟩
        case measure => simp [intOf]; omega
      · have h3 : (2000 : Int) < (l1.length : Int) := by omega
        go_wp2
        go_ret
        exact ⟨rfl, HB.out⟩
    · obtain rfl : k = l0.length := by omega
      rw [List.take_length] at HV HL
      obtain ⟨xs, HXS⟩ : ∃ xs, Aside0 (xs = l0.flatten) := ⟨_, ⟨rfl⟩⟩
      rw [← HXS.out] at HV HL
      obtain ⟨Av, cv, ev⟩ := Kd.R_slice HV.out
      subst ev
      have HRW := Aside0.mk (Kd.C_below HR.out HB.out)
      have hcv := (Kd.R_reads' HV.out).2.1
      go_wp2_with fail
      refine (crc_Check.calls A0 c0 l0 _ _ HRW.out hc rfl).mono ?_
      rintro e w2 ⟨rfl, hb2⟩
      have HB2 := Aside0.mk (below_step HB.out hb2)
      have HV2 := Aside0.mk (Kd.R_below HV.out hb2)
      clear hb2 HB HV HRW
      obtain ⟨n1, HN1⟩ : ∃ n1 : Int, Aside0 (n1 = 4294967295 - (crcParts 4294967295 l0 : Nat)) := ⟨_, ⟨rfl⟩⟩
      rw [← HN1.out]
      go_wp2
      go_loopw [6, 7] (fun v i wr => ∃ k : Nat, k ≤ l0.length ∧ i = .int .i64 k ∧ v = .int .i64 (l0.take k).flatten.length ∧ Aside0 (Kd.R (Kd.int .u8) 5 wr w.heap.size (fun _ => True) (.slice Av xs.length cv) xs) ∧ Aside0 (Below w.heap.size w wr)) (fun _ i _ => l0.length - (intOf i).toNat)
      case atStart => exact ⟨0, by omega, rfl, rfl, HV2, HB2⟩
      case round =>
        clear HV2 HB2
        obtain ⟨k, hk, rfl, rfl, HV, HB⟩ := hrel
        by_cases hlt : k < l0.length
        · have HRW := Aside0.mk (Kd.C_below HR.out HB.out)
          obtain ⟨ad, A1, c1, e1, hc1, hl1, hr1⟩ := at_rows HRW.out k (by omega) (by omega)
          cases e1
          simp only [Int.toNat_natCast] at hc1 hl1 hr1
          have hfl := flat_le l0 (k + 1) (by omega)
          have hf1 := flat_one l0 k hlt
          have hmid := flat_mid l0 k hlt
          rw [← HXS.out] at hfl hmid
          rw [hf1, List.length_append] at hfl
          obtain ⟨l1, HL1⟩ : ∃ l1, Aside0 (l1 = l0.getD k []) := ⟨_, ⟨rfl⟩⟩
          rw [← HL1.out] at hc1 hl1 hr1 hf1 hmid hfl
          have HF := Aside0.mk hf1
          obtain ⟨m, HM⟩ : ∃ m, Aside0 (m = (l0.take k).flatten.length) := ⟨_, ⟨rfl⟩⟩
          rw [← HM.out] at hmid hfl
          rw [← HM.out]
          have hxl := HL.out
          obtain ⟨A2, c2, s1, r1, m1⟩ := cut_mid (A := Av) (c := cv) (xs := xs) (a := m) (b := m + l1.length) (by omega) (by omega) hcv ((m : Int) + l1.length) (by omega)
          rw [hmid] at r1
          rw [show m + l1.length - m = l1.length by omega] at s1
          have hC := (Kd.R_reads' HV.out).2.2
          have e1 : ∀ n, (convert 23 9 (.slice A1 l1.length c1)).run Try.prog (wr.drewN n) = .ok (.string (strOfNums l1)) (wr.drewN n) := fun n =>
            Kd.C_string (P := Try.prog) (c := c1) Try.underlying23 Try.underlying5 Try.underlying9 (Kd.C_drewN hr1 n)
          have e2 : ∀ n, (convert 23 9 (.slice A2 l1.length c2)).run Try.prog (wr.drewN n) = .ok (.string (strOfNums l1)) (wr.drewN n) := fun n =>
            Kd.C_string (P := Try.prog) (c := c2) Try.underlying23 Try.underlying5 Try.underlying9 (Kd.C_drewN (r1 wr hC) n)
          have hw : IntKind.i64.wrap ((m : Int) + (l1.length : Int)) = (m : Int) + (l1.length : Int) := IntWalk.i64_in _ (by omega)
          have HML : Aside0 (m + l1.length ≤ xs.length ∧ xs.length ≤ 2000 * l0.length) := ⟨⟨by omega, hxl⟩⟩
          have hd0 : (0 : Int) ≤ (m : Int) := by omega
          clear hr1 r1 hC hfl hmid hf1 hxl m1
          generalize hs : strOfNums l1 = S1 at e1 e2
          clear hs
          have hcn : ∀ n, (wr.drewN n).cell? (ad.add k) = some (.slice A1 l1.length c1) := fun n => hc1
          go_wp2_with fail
          go_quiet (fail)
          clear e1 e2 s1
          go_wp2_with fail
          refine ⟨⟨k + 1, by omega, by go_num, ?_, ⟨Kd.R_drewN HV.out _⟩, ⟨pw_below_drewN HB.out _⟩⟩, ?_⟩
          · rw [HF.out, List.length_append, ← HM.out]; congr 1
          · simp [intOf]; omega
        · obtain rfl : k = l0.length := by omega
          rw [List.take_length]
          have hcd := (Kd.R_reads' HV.out).2.2
          go_wp2_with fail
          refine (quitrentref02_Check.calls Av cv xs _ _ hcd hcv rfl).mono ?_
          rintro e w3 ⟨rfl, hd⟩
          have HB3 : Aside0 (Below w.heap.size w w3) := ⟨by
            obtain ⟨n, rfl⟩ := hd
            exact pw_below_drewN HB.out _⟩
          have he : (n1 == 4294967295 - ((refBytes 4294967295 xs : Nat) : Int)) = true := by
            rw [HN1.out, HXS.out, crcParts_flat, refBytes_crcBytes]
            · simp
            · intro c hc
              obtain ⟨p, hp, hcp⟩ := List.mem_flatten.1 hc
              exact HBY.out p hp c hcp
          clear hd hcd HB
          go_wp2_with fail
          refine (quitrentlaw02_goes.calls true _ rfl).mono ?_
          rintro e w4 ⟨rfl, hb⟩
          have HB4 := Aside0.mk (below_step HB3.out hb)
          clear hb
          go_wp2
          go_ret
          exact ⟨rfl, HB4.out⟩
/-- A block of slices that came in reads as a row of rows. -/
theorem C_rows (a : Addr) (len cap : Nat) (A : Nat → Option Addr) (L C : Nat → Nat) (Z : Nat → List Int) (w : World) (hl : len ≤ cap) (hm : cap ≤ maxLen)
    (h : ∀ r, r < cap → w.cell? (a.add r) = some (.slice (A r) (L r) (C r)) ∧ L r ≤ C r ∧ C r ≤ maxLen ∧ (Z r).length = C r ∧ (∀ n ∈ Z r, (Lit.int .u8 n).wf = true) ∧ (A r = none → C r = 0) ∧
        ∀ a', A r = some a' → 0 ≤ a'.block ∧ ∀ c, c < C r → w.cell? (a'.add c) = some (.int .u8 ((Z r).getD c 0))) :
    Kd.C (Kd.slice 5 (Kd.int .u8)) w (some a) len ((List.range len).map fun r => (Z r).take (L r)) := by
  have hmx : maxLen = 9223372036854775807 := rfl
  refine ⟨by simp, by omega, fun _ => ⟨_, rfl, fun j l hj => ?_⟩⟩
  have hjl : j < len := by
    by_cases h : j < len
    · exact h
    · rw [List.getElem?_eq_none (by simp; omega)] at hj; cases hj
  rw [List.getElem?_map, List.getElem?_range hjl] at hj
  obtain rfl := Option.some.inj hj
  obtain ⟨h1, h2, h3, h4, h5, h6, h7⟩ := h j (by omega)
  have hlen : ((Z j).take (L j)).length = L j := by rw [List.length_take]; omega
  have hC : Kd.C (Kd.int .u8) w (A j) ((Z j).take (L j)).length ((Z j).take (L j)) := by
    refine Kd.C_of_reads (d := (0 : Int)) (h1 := fun _ => rfl) ⟨rfl, by rw [hlen]; omega, fun h0 => ?_⟩
    rw [hlen] at h0
    cases hA : A j with
    | none => have := h6 hA; omega
    | some a' =>
      refine ⟨a', rfl, fun i hi => ?_⟩
      rw [hlen] at hi
      rw [(h7 a' hA).2 i (by omega)]
      simp [List.getD_eq_getElem?_getD, List.getElem?_take, hi]
  refine ⟨[.slice (A j) ((Z j).take (L j)).length (C j)], rfl, ⟨A j, C j, rfl, by rw [hlen]; exact h2, hC⟩, fun i u hi => ?_⟩
  cases i with
  | zero =>
    simp at hi
    subst hi
    have hz : (Kd.slice 5 (Kd.int .u8)).sz = 1 := rfl
    rw [hz, Nat.mul_one, Nat.add_zero, h1]
    simp; omega
  | succ i => simp at hi
theorem Checks_walk (a : Addr) (len cap : Nat) (A : Nat → Option Addr) (L C : Nat → Nat) (Z : Nat → List Int) (w : World) (hl : len ≤ cap) (hm : cap ≤ maxLen)
    (h : ∀ r, r < cap → w.cell? (a.add r) = some (.slice (A r) (L r) (C r)) ∧ L r ≤ C r ∧ C r ≤ maxLen ∧ (Z r).length = C r ∧ (∀ n ∈ Z r, (Lit.int .u8 n).wf = true) ∧ (A r = none → C r = 0) ∧
        ∀ a', A r = some a' → 0 ≤ a'.block ∧ ∀ c, c < C r → w.cell? (a'.add c) = some (.int .u8 ((Z r).getD c 0))) :
    Calls Try.prog 3 #[.slice (some a) len cap] w fun e w' => e = .returned (.bool true) ∧ Below w.heap.size w w' := by
  have hlen : ((List.range len).map fun r => (Z r).take (L r)).length = len := by simp
  have := Checks_any (some a) cap ((List.range len).map fun r => (Z r).take (L r)) w (by rw [hlen]; exact C_rows a len cap A L C Z w hl hm h) (by rw [hlen]; exact hl) (fun p hp c hc => by
    obtain ⟨r, hr, rfl⟩ := List.mem_map.1 hp
    have hr := List.mem_range.1 hr
    obtain ⟨_, _, _, _, h5, _⟩ := h r (by omega)
    exact wf_byte c (h5 c (List.mem_of_mem_take hc)))
  rw [hlen] at this
  exact this
theorem Checks_nil (w : World) : Calls Try.prog 3 #[.slice none 0 0] w fun e w' => e = .returned (.bool true) ∧ Below w.heap.size w w' :=
  Checks_any none 0 [] w (Kd.C_nil _ _) (by simp) (fun p hp => by cases hp)
end Go.Proofs.Ytppmkbhknbalaaa.Ext
