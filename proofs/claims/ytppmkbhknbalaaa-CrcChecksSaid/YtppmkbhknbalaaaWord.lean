/- CrcWord, walked. -/
import Derived.Test.YtppmkbhknbalaaaMath2
import Derived.Outline
import Derived.Deep.QuietTactic
import Derived.BigQuiet
import Derived.RegionTactic
import Derived.Deep.RegionWith
import Derived.IntWalk
namespace Go.Proofs.Ytppmkbhknbalaaa.Ext
open Go.RowKit Go.Proofs.YtppmkbhknbalaaaW.PrintWords Go.Proofs.YtppmkbhknbalaaaW.PrintLast Go.Proofs.YtppmkbhknbalaaaW.PrintMore Go.Proofs.YtppmkbhknbalaaaW.Hand
set_option linter.unusedVariables false
theorem goes_true (w : World) : Calls Try.prog 10 #[] w fun e w' => e = .returned (.bool true) ∧ Below w.heap.size w w' := quitrentlaw02_goes.calls true w rfl

set_option maxHeartbeats 1600000 in
theorem word_short (A0 : Option Addr) (c0 : Nat) (l0 : List Int) (a1 a2 : Int) (w : World) (h : l0.length > 4200 ∨ l0.length < 4) :
    Calls Try.prog 5 #[.slice A0 l0.length c0, .int .u16 a1, .int .u32 a2] w fun e w' => e = .returned (.bool true) ∧ Below w.heap.size w w' := by
  rcases h with h | h
  · have h1 : (4200 : Int) < l0.length := by omega
    go_enter Try.func5, Try.ntmps5
    go_wp2_with (go_at_call 10; refine (goes_true _).mono ?_; rintro e w1 ⟨rfl, hb⟩)
    go_ret
    exact ⟨rfl, Below.refl _ _⟩
  · have h1 : ¬ (4200 : Int) < l0.length := by omega
    have h2 : (l0.length : Int) < 4 := by omega
    go_enter Try.func5, Try.ntmps5
    go_wp2_with (go_at_call 10; refine (goes_true _).mono ?_; rintro e w1 ⟨rfl, hb⟩)
    go_ret
    exact ⟨rfl, hb⟩
theorem place_any (a : Int) (w : World) : Calls Try.prog 11 #[.int .u32 a] w fun e w' => ∃ g, e = .returned (.slice (some ⟨g, 0, none⟩) 4 4) ∧ w.heap.size ≤ g ∧ Kd.C (Kd.int .u8) w' (some ⟨g, 0, none⟩) (placeOf a).length (placeOf a) ∧ Below w.heap.size w w' := by
  go_enter Try.func11, Try.ntmps11
  go_wp2
  refine bodyPost_ret (v := .slice (some ⟨w.heap.size, 0, none⟩) 4 4) (by simp [results, Try.results11, go_sem]) rfl ⟨_, rfl, Nat.le_refl _, ?_, below_alloc (Below.refl _ _) _⟩
  exact C_block (xs := placeOf a) (heap_new' _ _ rfl) rfl (by simp [placeOf])
theorem check_one {W : World} {g : Nat} {A : Option Addr} {c : Nat} {l : List Int} {n : Nat} {r : Int} (hr : (4294967295 - (crcParts 4294967295 [l] : Int)) = r) (hn : l.length = n) (hb : Blk W g (.cells #[.slice A n c] 23)) (hc : n ≤ c) (h : Kd.C (Kd.int .u8) W A l.length l) :
    Calls Try.prog 8 #[.slice (some ⟨g, 0, none⟩) 1 1] W fun e w' => e = .returned (.int .u32 r) ∧ Below W.heap.size W w' := by
  subst hn hr
  have c1 : Kd.C (Kd.slice 5 (Kd.int .u8)) W (some ⟨g, 0, none⟩) [l].length [l] := by
    refine C_slices (xss := [l]) hb.out rfl (fun j x hj => ?_) (by simp)
    match j, hj with
    | 0, hj =>
      obtain rfl := Option.some.inj hj
      exact ⟨A, c, rfl, hc, h⟩
  exact crc_Check.calls _ _ [l] _ _ c1 (by simp) rfl
theorem check_three {W : World} {g : Nat} {A1 A2 A3 : Option Addr} {c1 c2 c3 : Nat} {l1 l2 l3 : List Int} {n1 n2 n3 : Nat} {r : Int} (hr : (4294967295 - (crcParts 4294967295 [l1, l2, l3] : Int)) = r) (hn1 : l1.length = n1) (hn2 : l2.length = n2) (hn3 : l3.length = n3) (hb : Blk W g (.cells #[.slice A1 n1 c1, .slice A2 n2 c2, .slice A3 n3 c3] 23))
    (hc1 : n1 ≤ c1) (hc2 : n2 ≤ c2) (hc3 : n3 ≤ c3) (h1 : Kd.C (Kd.int .u8) W A1 l1.length l1) (h2 : Kd.C (Kd.int .u8) W A2 l2.length l2) (h3 : Kd.C (Kd.int .u8) W A3 l3.length l3) :
    Calls Try.prog 8 #[.slice (some ⟨g, 0, none⟩) 3 3] W fun e w' => e = .returned (.int .u32 r) ∧ Below W.heap.size W w' := by
  subst hn1 hn2 hn3 hr
  have c1 : Kd.C (Kd.slice 5 (Kd.int .u8)) W (some ⟨g, 0, none⟩) [l1, l2, l3].length [l1, l2, l3] := by
    refine C_slices (xss := [l1, l2, l3]) hb.out rfl (fun j x hj => ?_) (by simp)
    match j, hj with
    | 0, hj => obtain rfl := Option.some.inj hj; exact ⟨A1, _, rfl, hc1, h1⟩
    | 1, hj => obtain rfl := Option.some.inj hj; exact ⟨A2, _, rfl, hc2, h2⟩
    | 2, hj => obtain rfl := Option.some.inj hj; exact ⟨A3, _, rfl, hc3, h3⟩
  exact crc_Check.calls _ _ [l1, l2, l3] _ _ c1 (by simp) rfl
theorem info5 : (Try.prog.info? 5).map (fun i => (i.zero, i.size, i.bytes)) = some (some (.int .u8 0), 1, 1) := by kernel_rfl
/-- A cut of a row of bytes that is read. -/
theorem cut_mid {A : Option Addr} {c : Nat} {xs : List Int} {a b : Nat} (h1 : a ≤ b) (hm : b ≤ xs.length) (hc : xs.length ≤ c) (bi : Int) (hb : bi = (b : Int)) :
    ∃ (A' : Option Addr) (c' : Nat), (∀ W : World, (Instr.slice 23 (.slice A xs.length c) (some (.int .i64 (a : Int))) (some (.int .i64 bi)) none).run Try.prog W = .ok (.slice A' (b - a) c') W) ∧
      (∀ w : World, Kd.C (Kd.int .u8) w A xs.length xs → Kd.C (Kd.int .u8) w A' ((xs.take b).drop a).length ((xs.take b).drop a)) ∧ b - a ≤ c' := by
  subst hb
  obtain ⟨i0, hi, hz0, hz1, hz2⟩ := info_parts info5
  obtain ⟨A', h3, h4, h5⟩ := print_mid_of (P := Try.prog) (Value.int .u8) (0 : Int) 23 5 .i64 .i64 Try.underlying23 hi hz1 A c xs (a : Int) (b : Int) (by omega) (by omega) (by omega) hc
  have hl : ((xs.take b).drop a).length = b - a := by simp; omega
  simp only [Int.toNat_natCast, hl] at h3 h5
  simp only [Int.toNat_natCast] at h4
  exact ⟨A', _, h3, fun w h => Kd.C_of_reads (d := (0 : Int)) (h1 := fun _ => rfl) (h4 w (Kd.reads_of_C (enc := Value.int .u8) (d := (0 : Int)) (h1 := fun _ => rfl) h)), h5⟩
theorem cut_to {A : Option Addr} {c : Nat} {xs : List Int} {b : Nat} (hm : b ≤ xs.length) (hc : xs.length ≤ c) :
    (∀ W : World, (Instr.slice 23 (.slice A xs.length c) none (some (.int .i64 (b : Int))) none).run Try.prog W = .ok (.slice A b c) W) ∧
      (∀ w : World, Kd.C (Kd.int .u8) w A xs.length xs → Kd.C (Kd.int .u8) w A (xs.take b).length (xs.take b)) := by
  obtain ⟨i0, hi, hz0, hz1, hz2⟩ := info_parts info5
  obtain ⟨h3, h4, h5⟩ := print_take_of (P := Try.prog) (Value.int .u8) (0 : Int) 23 5 .i64 Try.underlying23 hi hz1 A c xs (b : Int) (by omega) (by omega) hc
  have hl : (xs.take b).length = b := by simp; omega
  simp only [Int.toNat_natCast, hl] at h3
  simp only [Int.toNat_natCast] at h4
  exact ⟨h3, fun w h => Kd.C_of_reads (d := (0 : Int)) (h1 := fun _ => rfl) (h4 w (Kd.reads_of_C (enc := Value.int .u8) (d := (0 : Int)) (h1 := fun _ => rfl) h))⟩
theorem cut_from {A : Option Addr} {c : Nat} {xs : List Int} {a : Nat} (hm : a ≤ xs.length) (hc : xs.length ≤ c) (ai : Int) (ha : ai = (a : Int)) :
    ∃ (A' : Option Addr) (c' : Nat), (∀ W : World, (Instr.slice 23 (.slice A xs.length c) (some (.int .i64 ai)) none none).run Try.prog W = .ok (.slice A' (xs.length - a) c') W) ∧
      (∀ w : World, Kd.C (Kd.int .u8) w A xs.length xs → Kd.C (Kd.int .u8) w A' (xs.drop a).length (xs.drop a)) ∧ xs.length - a ≤ c' := by
  subst ha
  obtain ⟨i0, hi, hz0, hz1, hz2⟩ := info_parts info5
  obtain ⟨A', h3, h4, h5⟩ := print_drop_of (P := Try.prog) (Value.int .u8) (0 : Int) 23 5 .i64 Try.underlying23 hi hz1 A c xs (a : Int) (by omega) (by omega) hc
  have hl : (xs.drop a).length = xs.length - a := by simp
  simp only [Int.toNat_natCast, hl] at h3 h5
  simp only [Int.toNat_natCast] at h4
  exact ⟨A', _, h3, fun w h => Kd.C_of_reads (d := (0 : Int)) (h1 := fun _ => rfl) (h4 w (Kd.reads_of_C (enc := Value.int .u8) (d := (0 : Int)) (h1 := fun _ => rfl) h)), h5⟩
set_option maxHeartbeats 1600000 in
theorem word_long (A0 : Option Addr) (c0 : Nat) (l0 : List Int) (a1 a2 : Int) (w : World) (hr0 : Kd.C (Kd.int .u8) w A0 l0.length l0) (hc0 : l0.length ≤ c0) (h : l0.length ≤ 4200) (h4 : 4 ≤ l0.length) (hw : ∀ c ∈ l0, IsByte c) (b1 : 0 ≤ a1) (b2 : a1 < 65536) :
    Calls Try.prog 5 #[.slice A0 l0.length c0, .int .u16 a1, .int .u32 a2] w fun e w' => e = .returned (.bool true) ∧ Below w.heap.size w w' := by
  have h1 : ¬ (4200 : Int) < l0.length := by omega
  have h2 : ¬ (l0.length : Int) < 4 := by omega
  obtain ⟨K, hK⟩ : ∃ K : Nat, K = a1.toNat % (l0.length - 3) := ⟨_, rfl⟩
  have hK4 : K + 4 ≤ l0.length := by have := Nat.mod_lt a1.toNat (show l0.length - 3 > 0 by omega); omega
  have hk : a1 % ((l0.length : Int) - 3) = (K : Int) := by
    rw [hK, Int.natCast_emod]; congr 1 <;> omega
  have HK := Aside0.mk hK
  clear hK
  go_enter Try.func5, Try.ntmps5
  go_wp2_with (go_at_call 11; refine (place_any _ _).mono ?_; rintro e w1 ⟨g, rfl, hg, hcw, hb⟩)
  have h0w : Aside0 (Kd.C (Kd.int .u8) w1 A0 l0.length l0) := ⟨Kd.C_below hr0 hb⟩
  have hHB := Aside0.mk hb
  have hHg := Aside0.mk hg
  clear hb hr0 hg
  have hwr : IntKind.i64.wrap ((K : Int) + 4) = (K : Int) + 4 := IntWalk.i64_in _ (by omega)
  obtain ⟨A1, c1, s1, r1, m1⟩ := cut_mid (A := A0) (c := c0) (xs := l0) (a := K) (b := K + 4) (by omega) (by omega) hc0 ((K : Int) + 4) (by omega)
  rw [show K + 4 - K = 4 from by omega] at s1 m1
  have l4 : ((l0.take (K + 4)).drop K).length = 4 := by simp; omega
  have e1 : ∀ n, (convert 23 9 (.slice A1 4 c1)).run Try.prog (w1.drewN n) = .ok (.string (strOfNums ((l0.take (K + 4)).drop K))) (w1.drewN n) := fun n => by
    have := Kd.C_string (P := Try.prog) (c := c1) Try.underlying23 Try.underlying5 Try.underlying9 (Kd.C_drewN (r1 w1 h0w.out) n)
    rw [l4] at this; exact this
  have e2 : ∀ n, (convert 23 9 (.slice (some ⟨g, 0, none⟩) 4 4)).run Try.prog (w1.drewN n) = .ok (.string (strOfNums (placeOf a2))) (w1.drewN n) := fun n => 
    Kd.C_string (P := Try.prog) (c := 4) Try.underlying23 Try.underlying5 Try.underlying9 (Kd.C_drewN hcw n)
  have R1 := Aside0.mk r1
  have HCW := Aside0.mk hcw
  clear r1 hcw
  generalize hs : strOfNums ((l0.take (K + 4)).drop K) = S1 at e1
  generalize ht : strOfNums (placeOf a2) = S2 at e2
  have HS := Aside0.mk hs
  have HT := Aside0.mk ht
  clear hs ht
  go_quiet (fail)
  clear e1 e2 s1
  go_wp2_with fail
  obtain ⟨W1, HW1⟩ : ∃ W, Aside0 (W = w1.drewN nq) := ⟨_, ⟨rfl⟩⟩
  rw [← HW1.out]
  obtain ⟨u1, u2⟩ := cut_to (A := A0) (c := c0) (xs := l0) (b := K) (by omega) hc0
  obtain ⟨A2, c2, t1, t2, t3⟩ := cut_from (A := A0) (c := c0) (xs := l0) (a := K + 4) (by omega) hc0 ((K : Int) + 4) (by omega)
  have U2 := Aside0.mk u2
  have T2 := Aside0.mk t2
  clear u2 t2
  have B0 : Aside0 (Below w.heap.size w W1) := ⟨by rw [HW1.out]; exact pw_below_drewN hHB.out _⟩
  have C0 : Aside0 (Kd.C (Kd.int .u8) W1 A0 l0.length l0) := ⟨by rw [HW1.out]; exact Kd.C_drewN h0w.out _⟩
  have CW : Aside0 (Kd.C (Kd.int .u8) W1 (some ⟨g, 0, none⟩) (placeOf a2).length (placeOf a2)) := ⟨by rw [HW1.out]; exact Kd.C_drewN HCW.out _⟩
  have lw : (placeOf a2).length = 4 := rfl
  have lt : (l0.take K).length = K := by simp; omega
  have ld : (l0.drop (K + 4)).length = l0.length - (K + 4) := by simp
  have LW := Aside0.mk lw
  have LT := Aside0.mk lt
  have LD := Aside0.mk ld
  have hKc : K ≤ c0 := by omega
  clear HW1 lw lt ld
  have C1 : Aside0 (Kd.C (Kd.int .u8) W1 A0 (l0.take K).length (l0.take K)) := ⟨U2.out _ C0.out⟩
  have C3 : Aside0 (Kd.C (Kd.int .u8) W1 A2 (l0.drop (K + 4)).length (l0.drop (K + 4))) := ⟨T2.out _ C0.out⟩
  obtain ⟨r1, HR1⟩ : ∃ r, Aside0 ((4294967295 - (crcParts 4294967295 [l0] : Int)) = r) := ⟨_, ⟨rfl⟩⟩
  obtain ⟨r2, HR2⟩ : ∃ r, Aside0 ((4294967295 - (crcParts 4294967295 [l0.take K, placeOf a2, l0.drop (K + 4)] : Int)) = r) := ⟨_, ⟨rfl⟩⟩
  have hE : ((r1 == r2) == (S1.toList == S2.toList)) = true := by
    have hm := word_mid (l0.take K) ((l0.take (K + 4)).drop K) (placeOf a2) (l0.drop (K + 4)) (fun c h => hw c (List.mem_of_mem_take h)) (fun c h => hw c (List.mem_of_mem_take (List.mem_of_mem_drop h))) (placeOf_bytes a2) (fun c h => hw c (List.mem_of_mem_drop h)) l4 rfl
    have e : l0.take K ++ (l0.take (K + 4)).drop K ++ l0.drop (K + 4) = l0 := by
      have : l0.take K = (l0.take (K + 4)).take K := by rw [List.take_take]; congr 1; omega
      rw [this, List.take_append_drop, List.take_append_drop]
    rw [e, HR1.out, HR2.out] at hm
    have h2 := strOf_same ((l0.take (K + 4)).drop K) (placeOf a2) (fun c h => hw c (List.mem_of_mem_take (List.mem_of_mem_drop h))) (placeOf_bytes a2)
    rw [HS.out, HT.out] at h2
    rw [hm, h2]; simp
  clear hw l4 R1
  go_region_with (first
    | (go_at_call 8; (with_reducible refine (check_one (l := l0) (A := A0) (n := l0.length) (c := c0) HR1.out rfl ?_ hc0 ?_).mono ?_); rotate_left 2; rintro e w2 ⟨rfl, hb2⟩; rotate_left; (focus (with_reducible repeat (first | apply Blk.drew | exact Blk.new_ | exact Blk.new (Eq.symm (size_alloc _ _)) | apply Blk.alloc))); (focus (with_reducible repeat (first | apply Kd.C_drew | apply Kd.C_alloc | exact C0.out))); have HB2 := Aside0.mk hb2; clear hb2)
    | (go_at_call 8; (with_reducible refine (check_three (A1 := A0) (A2 := some ⟨g, 0, none⟩) (A3 := A2) (c1 := c0) (c2 := 4) (c3 := c2) (l1 := l0.take K) (l2 := placeOf a2) (l3 := l0.drop (K + 4)) HR2.out LT.out LW.out LD.out ?_ hKc (Nat.le_refl 4) t3 ?_ ?_ ?_).mono ?_); rotate_left 4; rintro e w3 ⟨rfl, hb3⟩; rotate_left; (focus (with_reducible repeat (first | apply Blk.drew | exact Blk.new_ | exact Blk.new (Eq.symm (size_alloc _ _)) | apply Blk.alloc | refine Blk.below ?_ HB2.out))); (focus (with_reducible repeat (first | apply Kd.C_drew | apply Kd.C_alloc | exact C1.out | refine Kd.C_below ?_ HB2.out))); (focus (with_reducible repeat (first | apply Kd.C_drew | apply Kd.C_alloc | exact CW.out | refine Kd.C_below ?_ HB2.out))); (focus (with_reducible repeat (first | apply Kd.C_drew | apply Kd.C_alloc | exact C3.out | refine Kd.C_below ?_ HB2.out))); have HB3 := Aside0.mk hb3; clear hb3)
    | (go_at_call 10; refine (goes_true _).mono ?_; rintro e w4 ⟨rfl, hb4⟩; have HB4 := Aside0.mk hb4; clear hb4))
  all_goals
    go_wp2
    go_ret
    refine ⟨rfl, ?_⟩
    (with_reducible repeat (first | exact B0.out | refine below_step ?_ HB4.out | refine below_step ?_ HB3.out | refine below_step ?_ HB2.out | apply below_alloc | apply pw_below_drewN | apply below_drew1 | apply below_drew))
theorem CrcWord.walk (a0 : Option Addr) (len0 cap0 : Nat) (z0 : List Int) (a1 a2 : Int) (w : World) (w0 : (a0 = none ∧ len0 = 0 ∧ cap0 = 0 ∧ z0 = []) ∨ ∃ x, a0 = some x ∧ len0 ≤ cap0 ∧ cap0 ≤ maxLen ∧ z0.length = cap0 ∧ (∀ i, i < z0.length → w.cell? (x.add i) = some (.int .u8 (z0.getD i 0))) ∧ ∀ n ∈ z0, (Lit.int .u8 n).wf = true) (y0 : len0 * 1 ≤ 140737488351232) (w1 : (Lit.int .u16 a1).wf = true) (w2 : (Lit.int .u32 a2).wf = true) :
    Calls Try.prog 5 #[.slice a0 len0 cap0, .int .u16 a1, .int .u32 a2] w fun e w' => e = .returned (.bool true) ∧ Below w.heap.size w w' := by
  obtain ⟨l0, rfl, hr0, hm0, hw0, hc0⟩ := ReadsInt.ofRowC w0
  have hb : ∀ c ∈ l0, IsByte c := fun c hc => wf_byte c (hw0 c hc)
  have h1 := wf_half a1 w1
  by_cases h : l0.length > 4200 ∨ l0.length < 4
  · exact word_short a0 cap0 l0 a1 a2 w h
  · exact word_long a0 cap0 l0 a1 a2 w (Kd.C_of_reads (d := (0 : Int)) (h1 := fun _ => rfl) hr0) hc0 (by omega) (by omega) hb h1.1 h1.2
end Go.Proofs.Ytppmkbhknbalaaa.Ext
