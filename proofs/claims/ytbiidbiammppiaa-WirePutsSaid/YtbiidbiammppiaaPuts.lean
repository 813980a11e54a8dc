/- WirePuts, walked. -/
import Derived.Test.YtbiidbiammppiaaNum
import Derived.Test.YtbiidbiammppiaaWMath
import Derived.Test.YtbiidbiammppiaaGoes
import Derived.Test.YtbiidbiammppiaaLaws1
import Derived.Deep.RegionHeld3
import Derived.Lib.SmallJoins
namespace Go.Proofs.Ytbiidbiammppiaa.Ext
open Go.RowKit Go.Proofs.YtbiidbiammppiaaW.PrintWords Go.Proofs.YtbiidbiammppiaaW.PrintLast Go.Proofs.YtbiidbiammppiaaW.PrintMore Go.Proofs.YtbiidbiammppiaaW.Hand
set_option linter.unusedVariables false
theorem str_app (a b : List Int) : strOfNums (a ++ b) = strOfNums a ++ strOfNums b := by
  have h : (strOfNums (a ++ b)).data.toList = (strOfNums a ++ strOfNums b).data.toList := by
    rw [Go.Joins.data_append]; simp [strOfNums]
  generalize strOfNums (a ++ b) = x at *
  generalize strOfNums a ++ strOfNums b = y at *
  obtain ⟨⟨x⟩⟩ := x
  obtain ⟨⟨y⟩⟩ := y
  simpa using h
theorem slice_more {A : Option Addr} {n c : Nat} (m : Nat) (h : m ≤ c) (mi : Int) (hm : mi = m) (W : World) : (Instr.slice 22 (.slice A n c) none (some (.int .i64 mi)) none).run Try.prog W = .ok (.slice A m c) W := by
  subst hm
  obtain ⟨i0, hi, hz0, hz1, hz2⟩ := info_parts infoU8
  have hel : Try.prog.elem 22 = 5 := by simp [Program.elem, Try.underlying22]
  have hu : Try.prog.underlying 22 = some (.slice (Try.prog.elem 22)) := by rw [hel]; exact Try.underlying22
  have ha : (A.map fun x => x.add 0) = A := by cases A <;> simp [Addr.add]
  rw [run_slice_h W 22 A n c hu .i64 m (by omega) (by omega), hel]
  simp [sizeOf, typeInfo, hi, hz1, sliced, Result.andThen, ha]
theorem str_came {W : World} {A : Option Addr} {n c : Nat} {xs : List Int} {S : ByteArray} (h : Kd.C (Kd.int .u8) W A n xs) (hS : strOfNums xs = S) : (convert 22 9 (.slice A n c)).run Try.prog W = .ok (.string S) W :=
  hS ▸ Kd.C_string (P := Try.prog) (c := c) Try.underlying22 Try.underlying5 Try.underlying9 h
set_option maxRecDepth 100000 in
set_option maxHeartbeats 12800000 in
theorem WirePuts.go (A : Option Addr) (c : Nat) (l : List Int) (A2 : Option Addr) (c2 : Nat) (s : List Int) (n cc : Int) (w : World) (hr : Kd.C (Kd.int .u8) w A l.length l) (hr2 : Kd.C (Kd.int .u8) w A2 s.length s)
    (hn : 0 ≤ n) (hn2 : n < 18446744073709551616) (hc0 : 0 ≤ cc) (hc1 : cc < 256) :
    Calls Try.prog 5 #[.slice A l.length c, .slice A2 s.length c2, .int .u64 n, .int .u8 cc] w fun e w' => e = .returned (.bool true) ∧ Below w.heap.size w w' := by
  have HR := Aside0.mk hr
  have HR2 := Aside0.mk hr2
  clear hr hr2
  by_cases h1 : (1000 : Int) < l.length
  · clear hn hn2 hc0 hc1
    go_enter Try.func5, Try.ntmps5
    go_wp2_with fail
    go_ret
    exact ⟨rfl, Below.refl _ _⟩
  by_cases h2 : (1000 : Int) < s.length
  · clear hn hn2 hc0 hc1
    go_enter Try.func5, Try.ntmps5
    go_wp2_with fail
    go_ret
    exact ⟨rfl, Below.refl _ _⟩
  have et : top64 = 18446744073709551616 := rfl
  obtain ⟨q, hq⟩ : ∃ q, IntKind.i64.wrap n = q := ⟨_, rfl⟩
  have hqt : q % top64 = n := by rw [← hq, et, IntKind.wrap_i64]; omega
  have hcu : IntKind.u64.wrap cc = cc := by rw [IntKind.wrap_u64]; omega
  have k1 := Aside0.mk (fun w => Number_calls cc 1 1 rfl w (by decide) hc0)
  have k2 := Aside0.mk (fun w => Number_calls n 8 8 rfl w (by decide) hn)
  have N0 := Aside0.mk hn
  have N1 := Aside0.mk hn2
  have C0 := Aside0.mk hc0
  have C1 := Aside0.mk hc1
  have QT := Aside0.mk hqt
  clear hn hn2 hc0 hc1 hqt et
  go_enter Try.func5, Try.ntmps5
  go_wp2_with (first
    | (at_builtin; refine Kd.R_append_row (Value.int .u8) (0 : Int) (w0 := w) w.heap.size rfl (.tmp 24) (.tmp 25) 22 5 (.int .u8 0) 1 rfl Try.underlying22 infoU8 rfl (by decide) (.slice (some ⟨w.heap.size, 0, none⟩) 0 0) [] l A l.length c (fun k => w.heap.size ≤ k) rfl rfl (fun k hk => by simp at hk; omega) (R_empty w _ _ (Nat.le_refl _) (Nat.le_refl _)) (Kd.C_alloc HR.out _) (below_alloc (Below.refl _ _) _) (by simp) (by simp; omega) ?_; intro v1 w1 ho hb hg hat; simp only [List.nil_append] at ho; obtain ⟨Av, cv, ev⟩ := Kd.R_slice ho; subst ev; have HO := Aside0.mk ho; have HB := Aside0.mk hb; clear ho hb hg hat)
    | (at_builtin; refine Kd.R_append_row (Value.int .u8) (0 : Int) (w0 := w) w.heap.size rfl (.tmp 26) (.tmp 27) 22 5 (.int .u8 0) 1 rfl Try.underlying22 infoU8 rfl (by decide) (.slice Av l.length cv) l [9] (some ⟨w1.heap.size, 0, none⟩) 1 1 (fun k => w.heap.size ≤ k) rfl rfl (fun k hk => Nat.le_trans HB.out.size (by rw [size_alloc] at hk; omega)) (Kd.R_below HO.out (below_alloc (Below.refl _ _) _)) (C_block (xs := [9]) (heap_new _ _) rfl (by decide)) (below_alloc HB.out _) (Nat.le_trans HB.out.size (by rw [size_alloc]; omega)) (by simp; omega) ?_; intro v2 w2 ho hb hg hat; obtain ⟨Ai, ci, ev⟩ := Kd.R_slice ho; subst ev; have HI := Aside0.mk (Kd.R_reads' ho); have HB2 := Aside0.mk hb; have hci := (Kd.R_reads' ho).2.1; (have hcut := cut_to .i64 (A := Ai) (c := ci) (xs := l ++ [9]) (b := l.length) (by simp) hci (l.length : Int) rfl); obtain ⟨s1, t2⟩ := hcut; have T2 := Aside0.mk t2; simp only [List.length_append, List.length_singleton] at s1 hci; clear t2 ho hb hg hat))
  have hcl : Kd.C (Kd.int .u8) w2 Ai l.length l := by
    have := T2.out w2 HI.out.2.2
    rw [List.take_append_of_le_length (Nat.le_refl _), List.take_of_length_le (Nat.le_refl _)] at this
    exact this
  have HIN := Aside0.mk hcl
  obtain ⟨ad, ea, h9⟩ := Kd.at_int HI.out.2.2 (l.length : Int) (by omega) (by simp; omega)
  subst ea
  have h99 : rd (l ++ [9]) (l.length : Int) = 9 := by simp [rd]
  rw [h99] at h9
  simp only [Int.toNat_natCast] at h9
  have H9 := Aside0.mk h9
  have hmore := slice_more (A := some ad) (n := l.length) (c := ci) (l.length + 1) hci ((l.length : Int) + 1) (by omega)
  have hlw : IntKind.i64.wrap ((l.length : Int) + 1) = (l.length : Int) + 1 := by rw [IntKind.wrap_i64]; omega
  clear hcl h9 h99 T2 HI HO HB
  refine (Byte_any (some ad) ci l cc _ HIN.out (by omega) C0.out C1.out).mono ?_
  rintro e w3 ⟨v3, rfl, hV, hb⟩
  obtain ⟨A3, c3, ev⟩ := Kd.R_slice hV
  subst ev
  obtain ⟨n3, hn3⟩ : ∃ m, (l ++ beN 1 cc).length = m := ⟨_, rfl⟩
  have X3 := Aside0.mk (Kd.R_reads' hV).2.2
  rw [hn3] at X3 ⊢
  have L3 := Aside0.mk hn3
  have B3 := Aside0.mk hb
  clear hV hb hn3
  go_wp2_with fail
  have I3 := Aside0.mk (Kd.C_below HIN.out B3.out)
  refine (Uint_any (some ad) ci l n _ I3.out (by omega) N0.out N1.out).mono ?_
  rintro e w4 ⟨v4, rfl, hV, hb⟩
  obtain ⟨A4, c4, ev⟩ := Kd.R_slice hV
  subst ev
  obtain ⟨n4, hn4⟩ : ∃ m, (l ++ beN 8 n).length = m := ⟨_, rfl⟩
  have X4 := Aside0.mk (Kd.R_reads' hV).2.2
  rw [hn4] at X4 ⊢
  have L4 := Aside0.mk hn4
  have B4 := Aside0.mk hb
  clear hV hb hn4
  go_wp2_with fail
  have I4 := Aside0.mk (Kd.C_below I3.out B4.out)
  refine (Int_any (some ad) ci l q _ I4.out (by omega)).mono ?_
  rintro e w5 ⟨v5, rfl, hV, hb⟩
  obtain ⟨A5, c5, ev⟩ := Kd.R_slice hV
  subst ev
  obtain ⟨n5, hn5⟩ : ∃ m, (l ++ beN 8 (q % top64)).length = m := ⟨_, rfl⟩
  have X5 := Aside0.mk (Kd.R_reads' hV).2.2
  rw [hn5] at X5 ⊢
  have L5 := Aside0.mk hn5
  have B5 := Aside0.mk hb
  rw [QT.out] at X5 L5
  clear hV hb hn5
  go_wp2_with fail
  have I5 := Aside0.mk (Kd.C_below I4.out B5.out)
  have BB5 := Aside0.mk (below_step (below_step (below_step HB2.out B3.out) B4.out) B5.out)
  refine (Text_any (some ad) ci l A2 c2 s _ I5.out (Kd.C_below HR2.out BB5.out) (by omega)).mono ?_
  rintro e w6 ⟨v6, rfl, hV, hb⟩
  obtain ⟨A6, c6, ev⟩ := Kd.R_slice hV
  subst ev
  obtain ⟨n6, hn6⟩ : ∃ m, (l ++ beN 4 s.length ++ s).length = m := ⟨_, rfl⟩
  have X6 := Aside0.mk (Kd.R_reads' hV).2.2
  rw [hn6] at X6 ⊢
  have L6 := Aside0.mk hn6
  have B6 := Aside0.mk hb
  clear hV hb hn6
  have I6 := Aside0.mk (Kd.C_below I5.out B6.out)
  have BB6 := Aside0.mk (below_step BB5.out B6.out)
  have Y3 := Aside0.mk (Kd.C_below (Kd.C_below (Kd.C_below X3.out B4.out) B5.out) B6.out)
  have Y4 := Aside0.mk (Kd.C_below (Kd.C_below X4.out B5.out) B6.out)
  have Y5 := Aside0.mk (Kd.C_below X5.out B6.out)
  have Z9 := Aside0.mk ((Kd.C_below HIN.out (below_step (below_step (below_step B3.out B4.out) B5.out) B6.out)))
  obtain ⟨H, hH⟩ : ∃ H, strOfNums l = H := ⟨_, rfl⟩
  obtain ⟨S1, hS1⟩ : ∃ H, strOfNums (beN 1 cc) = H := ⟨_, rfl⟩
  obtain ⟨S8, hS8⟩ : ∃ H, strOfNums (beN 8 n) = H := ⟨_, rfl⟩
  obtain ⟨ST, hST⟩ : ∃ H, strOfNums (beN 4 s.length ++ s) = H := ⟨_, rfl⟩
  have G0 := Aside0.mk hH
  have G1 := Aside0.mk (show strOfNums (l ++ beN 1 cc) = H ++ S1 by rw [str_app, hH, hS1])
  have G8 := Aside0.mk (show strOfNums (l ++ beN 8 n) = H ++ S8 by rw [str_app, hH, hS8])
  have GT := Aside0.mk (show strOfNums (l ++ beN 4 s.length ++ s) = H ++ ST by rw [List.append_assoc, str_app, hH, hST])
  have zH : H.size = l.length := by rw [← hH, strOfNums_size]
  have z1 : H.size + S1.size ≤ 9223372036854775807 := by rw [zH, ← hS1, strOfNums_size, beN_length]; omega
  have z8 : H.size + S8.size ≤ 9223372036854775807 := by rw [zH, ← hS8, strOfNums_size, beN_length]; omega
  have zT : H.size + ST.size ≤ 9223372036854775807 := by rw [zH, ← hST, strOfNums_size, List.length_append, beN_length]; omega
  clear zH
  have P1 := Aside0.mk hS1
  have P8 := Aside0.mk hS8
  have PT := Aside0.mk hST
  have hw6 := str_came (c := c) (Kd.C_below HR.out BB6.out) hH
  have b9 : w6.cell? (ad.add l.length) = some (.int .u8 9) := by
    have hb := below_step (below_step (below_step B3.out B4.out) B5.out) B6.out
    exact (hb.cell (World.block_lt_of_cell? w2 _ H9.out)).trans H9.out
  have N9 := Aside0.mk b9
  have k3 := Aside0.mk (fun w hr => RText_calls A2 c2 s w hr (by omega))
  clear hH hS1 hS8 hST hq
  clear X3 X4 X5 L3 L4 L5 L6 B3 B4 B5 B6 I3 I4 I5 Z9 HIN H9 HB2 BB5 N0 N1 C0 C1 QT s1 b9
  go_wp2_with fail
  clear hmore hlw
  clear hw6
  have Sall : Aside0 (∀ W : World, Below w6.heap.size w6 W → (convert 22 9 (.slice A3 n3 c3)).run Try.prog W = .ok (.string (H ++ S1)) W ∧ (convert 22 9 (.slice A4 n4 c4)).run Try.prog W = .ok (.string (H ++ S8)) W ∧ (convert 22 9 (.slice A5 n5 c5)).run Try.prog W = .ok (.string (H ++ S8)) W ∧ (convert 22 9 (.slice A6 n6 c6)).run Try.prog W = .ok (.string (H ++ ST)) W ∧ (convert 22 9 (.slice (some ad) l.length ci)).run Try.prog W = .ok (.string (H)) W ∧ (convert 22 9 (.slice A l.length c)).run Try.prog W = .ok (.string (H)) W ∧ W.cell? (ad.add l.length) = some (.int .u8 9) ∧ Below w6.heap.size w6 W) := ⟨fun W hW =>
    ⟨str_came (Kd.C_below Y3.out hW) G1.out, str_came (Kd.C_below Y4.out hW) G8.out, str_came (Kd.C_below Y5.out hW) G8.out, str_came (Kd.C_below X6.out hW) GT.out, str_came (Kd.C_below I6.out hW) G0.out, str_came (Kd.C_below (Kd.C_below HR.out BB6.out) hW) G0.out, (hW.cell (World.block_lt_of_cell? w6 _ N9.out)).trans N9.out, hW⟩⟩
  have K0 := Aside0.mk (below_drew (Below.refl w6.heap.size w6))
  refine wp_region_noPanic ?_
  go_region_held (fun W : World => (convert 22 9 (.slice A3 n3 c3)).run Try.prog W = .ok (.string (H ++ S1)) W ∧ (convert 22 9 (.slice A4 n4 c4)).run Try.prog W = .ok (.string (H ++ S8)) W ∧ (convert 22 9 (.slice A5 n5 c5)).run Try.prog W = .ok (.string (H ++ S8)) W ∧ (convert 22 9 (.slice A6 n6 c6)).run Try.prog W = .ok (.string (H ++ ST)) W ∧ (convert 22 9 (.slice (some ad) l.length ci)).run Try.prog W = .ok (.string (H)) W ∧ (convert 22 9 (.slice A l.length c)).run Try.prog W = .ok (.string (H)) W ∧ W.cell? (ad.add l.length) = some (.int .u8 9) ∧ Below w6.heap.size w6 W)
    (first
      | exact Sall.out _ K0.out
      | exact Sall.out _ D7.out
      | exact Sall.out _ D8.out
      | exact Sall.out _ D9.out
      | exact Sall.out _ D10.out)
    (first
        | (go_at_call 17; (with_reducible refine (k1.out _).mono ?_); rintro e w7 ⟨v7, rfl, hV, hb⟩; (have cv1 := str_own hV); rw [P1.out] at cv1; (have D7 := Aside0.mk (below_step (below_drew (Below.refl _ _)) hb)); clear hV hb)
        | (go_at_call 17; (with_reducible refine (k2.out _).mono ?_); rintro e w8 ⟨v8, rfl, hV, hb⟩; (have cv2 := str_own hV); rw [P8.out] at cv2; (have D8 := Aside0.mk (below_step D7.out hb)); clear hV hb)
        | (go_at_call 18; (with_reducible refine (k3.out _ ?_).mono ?_); (exact Kd.C_below HR2.out (below_step BB6.out D8.out)); rintro e w9 ⟨v9, rfl, hV, hb⟩; (have cv3 := str_own hV); rw [PT.out] at cv3; (have D9 := Aside0.mk (below_step D8.out hb)); clear hV hb)
        | (go_at_call 12; refine (goes_true _).mono ?_; rintro e w10 ⟨rfl, hb⟩; (have D10 := Aside0.mk (below_step D9.out hb)); clear hb))
  all_goals
    refine NoPanic.normal ?_
    go_wp2_with fail
    go_ret
    exact ⟨rfl, below_step BB6.out D10.out⟩
end Go.Proofs.Ytbiidbiammppiaa.Ext
