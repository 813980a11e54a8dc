/- ShareProration: the walk. -/
import Derived.Test.YtimdoddaaelfjaaSOpen
namespace Go.Proofs.Ytimdoddaaelfjaa.Ext
open Go.RowKit Go.ChangeShapes Go.WideShapes Go.Proofs.YtimdoddaaelfjaaW.PrintWords Go.Proofs.YtimdoddaaelfjaaW.PrintLast Go.Proofs.YtimdoddaaelfjaaW.PrintMore Go.Proofs.YtimdoddaaelfjaaW.Hand
set_option linter.unusedVariables false
theorem rep_at (a : Int) (n i : Nat) (h : i < n) : (List.replicate n a).getD i 0 = a := by
  rw [List.getD_eq_getElem?_getD, List.getElem?_replicate, if_pos h]; rfl
theorem pp_rep (a : Int) (ds : List Int) (i : Nat) (h : i < ds.length) : pp (List.replicate ds.length a) ds i = a * ds.getD i 0 := by
  unfold pp; rw [rep_at a _ i h]
theorem ppL_rep (a : Int) (ds : List Int) : ∀ n, n ≤ ds.length → (ppL (List.replicate ds.length a) ds n).sum = a * (ds.take n).sum := by
  intro n
  induction n with
  | zero => intro _; simp [ppL]
  | succ n ih =>
    intro h
    rw [ppL_succ, ih (by omega), pp_rep a ds n (by omega), take_snoc ds n (by omega), List.sum_append, Int.mul_add]
    simp
theorem proF_sum (am ds : List Int) (of : Int) (n : Nat) (h : 0 < n) : (proL am ds of n).sum = (pqL am ds of n).sum + (prL am ds of n).sum / of := by
  obtain ⟨m, rfl⟩ : ∃ m, n = m + 1 := ⟨n - 1, by omega⟩
  have e : proL am ds of (m + 1) = pqL am ds of m ++ [pp am ds m / of + (prL am ds of (m + 1)).sum / of] := by
    unfold proL pqL
    rw [List.range_succ, List.map_append]
    congr 1
    · refine List.map_congr_left fun i hi => ?_
      have := List.mem_range.1 hi
      unfold proF
      rw [if_neg (by omega)]
    · simp [proF]
  rw [e, pqL_succ, List.sum_append, List.sum_append]
  simp
  omega
/-- The parts of one amount come to it. -/
theorem pro_one {a : Int} {ds : List Int} (h : POk (List.replicate ds.length a) ds ds.sum) : (proL (List.replicate ds.length a) ds ds.sum ds.length).sum = a := by
  have h1 := h.o1
  have hl := h.lo
  rw [List.length_replicate] at hl
  have e := ppL_rep a ds ds.length (Nat.le_refl _)
  rw [List.take_length] at e
  have e2 := pro_all (List.replicate ds.length a) ds ds.sum ds.length
  rw [proF_sum _ _ _ _ (by omega)]
  rw [e] at e2
  generalize (pqL (List.replicate ds.length a) ds ds.sum ds.length).sum = Q at *
  generalize (prL (List.replicate ds.length a) ds ds.sum ds.length).sum = R at *
  generalize ds.sum = D at *
  have e3 : R = D * (a - Q) := by rw [Int.mul_sub, Int.mul_comm D a]; omega
  rw [e3, Int.mul_ediv_cancel_left _ (by omega)]
  omega
theorem pro_each {a : Int} {ds : List Int} (h : POk (List.replicate ds.length a) ds ds.sum) (i : Nat) (hi : i + 1 < ds.length) :
    money_Part.f a (ds.getD i 0) ds.sum = some ((proL (List.replicate ds.length a) ds ds.sum ds.length).getD i 0, a * ds.getD i 0 % ds.sum, 0) := by
  have r := (rndp_of h i (by rw [List.length_replicate]; omega)).part
  rw [rep_at a _ i (by omega), pp_rep a ds i (by omega)] at r
  rw [r, proL_at _ _ _ _ _ (by omega)]
  unfold proF
  rw [if_neg (by omega), pp_rep a ds i (by omega)]
theorem pro_i64 {a : Int} {ds : List Int} (h : POk (List.replicate ds.length a) ds ds.sum) (ha : I64 a) : ∀ x ∈ proL (List.replicate ds.length a) ds ds.sum ds.length, I64 x := by
  intro x hx
  have hl := h.lo
  rw [List.length_replicate] at hl
  have h1 := h.o1
  obtain ⟨i, hi, rfl⟩ := List.mem_map.1 hx
  have hi := List.mem_range.1 hi
  obtain ⟨_, _, e2, e3⟩ := pp_rng h i (by rw [List.length_replicate]; exact hi)
  have s := prL_rng (List.replicate ds.length a) ds ds.sum (by omega) ds.length
  have hh := h.hi
  rw [List.length_replicate] at hh
  have v0 : 0 ≤ (prL (List.replicate ds.length a) ds ds.sum ds.length).sum / ds.sum := Int.ediv_nonneg s.1 (by omega)
  have v1 : (prL (List.replicate ds.length a) ds ds.sum ds.length).sum / ds.sum ≤ (ds.length : Int) := by
    calc _ ≤ ds.sum * (ds.length : Int) / ds.sum := Int.ediv_le_ediv (by omega) s.2
      _ = (ds.length : Int) := Int.mul_ediv_cancel_left _ (by omega)
  unfold proF I64
  split <;> omega
set_option maxRecDepth 100000 in
set_option maxHeartbeats 12800000 in
theorem ShareProration.go {n c : Nat} (a : Int) (A : Option Addr) (ds : List Int) (hn : ds.length = n) (w : World) (hr : Kd.C (Kd.int .i64) w A n ds) (hc : n ≤ c) (ha : I64 a) (hw : ∀ x ∈ ds, I64 x) (hm : n ≤ 9223372036854775807) :
    Calls Try.prog 5 #[.int .i64 a, .slice A n c] w fun e w' => e = .returned (.bool true) ∧ Below w.heap.size w w' := by
  subst hn
  have HR := Aside0.mk hr
  by_cases c1 : 100 < ds.length
  · have z : (100 : Int) < (ds.length : Int) := by omega
    clear hr hw ha
    go_enter Try.func5, Try.ntmps5
    go_wp2_with fail
    go_ret
    exact ⟨rfl, Below.refl _ _⟩
  have z : ¬ (100 : Int) < (ds.length : Int) := by omega
  obtain ⟨of, er, hof⟩ : ∃ of er, small ds.sum = (of, er) := ⟨_, _, rfl⟩
  have hsm : (I64 ds.sum ∧ of = ds.sum ∧ er = 0) ∨ (¬ I64 ds.sum ∧ of = 0 ∧ er = 30) := by
    unfold small at hof
    by_cases h : I64 ds.sum
    · rw [if_pos h] at hof; injection hof with h1 h2; exact .inl ⟨h, h1.symm, h2.symm⟩
    · rw [if_neg h] at hof; injection hof with h1 h2; exact .inr ⟨h, h1.symm, h2.symm⟩
  have iof : I64 of := by
    rcases hsm with ⟨h, rfl, _⟩ | ⟨_, rfl, _⟩
    · exact h
    · unfold I64; omega
  have k1 := Aside0.mk (money_Sum.calls A c ds of er w hr hc (by unfold money_Sum.f; rw [if_pos ⟨hw, hm⟩, hof]))
  have HSM := Aside0.mk hsm
  have HW := Aside0.mk hw
  have IOF := Aside0.mk iof
  have HA := Aside0.mk ha
  clear hr hw hof hsm iof ha
  go_enter Try.func5, Try.ntmps5
  go_wp2_with (go_at_call 14; refine k1.out.mono ?_; rintro e w1 ⟨rfl, hb⟩; have HB1 := Aside0.mk hb.below; clear hb k1)
  go_loopw [7, 26] (fun vo vi wr => ∃ k : Nat, k ≤ ds.length ∧ vi = .int .i64 k ∧ Aside0 (N2 w1 w1.heap.size wr vo (.slice none 0 0) (List.replicate k a) [])) (fun _ i _ => ds.length - (intOf i).toNat)
  case atStart => exact ⟨0, Nat.zero_le _, rfl, ⟨own_nil _ _ _ _, own_nil _ _ _ _, fun k hk => by simp [Value.ownBlock] at hk, Nat.le_refl _, Below.refl _ _⟩⟩
  case round =>
    obtain ⟨k, hk, rfl, HN⟩ := hrel
    by_cases hlt : k < ds.length
    · have hlz : (k : Int) < (ds.length : Int) := by omega
      have hlo : (List.replicate k a).length < 1000 := by rw [List.length_replicate]; omega
      go_wp2_with (at_builtin; refine HN.out.app_o a rfl (.tmp 28) (.tmp 30) rfl rfl rfl hlo ?_; intro vo1 w5 h5; have HN5 := Aside0.mk h5; clear h5)
      go_roundw
      case measure => simp [intOf]; omega
      case rel => exact ⟨k + 1, by omega, by go_num, ⟨by rw [List.replicate_succ']; exact HN5.out⟩⟩
    · obtain rfl : k = ds.length := by omega
      have hlz : ¬ ((ds.length : Int)) < (ds.length : Int) := by omega
      have hn := HN.out
      obtain ⟨A2, c2, hv, hrd⟩ := own_reads hn.o
      rw [List.length_replicate] at hv hrd
      subst hv
      have HB2 := Aside0.mk (below_step' HB1.out hn.low)
      have k2 := Aside0.mk (prorate_calls (c := c2) (c' := c) A2 A (List.replicate ds.length a) ds of (by rw [List.length_replicate]) rfl wr (Kd.C_of_reads (d := (0 : Int)) (h1 := fun _ => rfl) hrd) (Kd.C_below HR.out HB2.out) IOF.out hm hm)
      clear hn hrd HN
      by_cases hp : POk (List.replicate ds.length a) ds of
      rotate_left
      · have HP := Aside0.mk hp
        clear hp
        rcases HSM.out with ⟨-, -, h0⟩ | ⟨-, -, h0⟩
        all_goals
          subst h0
          clear HSM
          go_wp2_with (first | (go_at_call 12; refine k2.out.mono ?_; rintro e w2 ⟨A3, c3, e3, l3, rfl, hC3, hS3, hb3, hl3⟩; obtain ⟨he3, rfl⟩ := hS3.2 HP.out; obtain rfl : e3 = 1 := (by omega); have HB3 := Aside0.mk (below_step' HB2.out hb3); clear hC3 hS3 hb3 k2 he3) | (go_at_call 11; refine (goes_calls _).mono ?_; rintro e w9 ⟨rfl, hb⟩; have HB9 := Aside0.mk (below_step' HB3.out hb); clear hb))
          go_ret
          exact ⟨rfl, HB9.out⟩
      · rcases HSM.out with ⟨hi, rfl, h0⟩ | ⟨_, h1, _⟩
        rotate_left
        · have := hp.o1; omega
        subst h0
        have HP := Aside0.mk hp
        have hl1 : 1 ≤ ds.length := by have := hp.lo; rw [List.length_replicate] at this; exact this
        clear hp HSM hi
        go_wp2_with (go_at_call 12; refine k2.out.mono ?_; rintro e w2 ⟨A3, c3, e3, l3, rfl, hC3, hS3, hb3, hl3, hl4⟩; obtain ⟨he3, hl3'⟩ := hS3.1 HP.out; rw [List.length_replicate] at hl3'; obtain rfl : e3 = 0 := (by omega); have HB3 := Aside0.mk (below_step' HB2.out hb3); have HC3 := Aside0.mk hC3; have HL3 := Aside0.mk hl3'; have HL4 := Aside0.mk hl4; have hlen := (show l3.length = ds.length by rw [hl3', proL_len]); rw [hlen]; have HLN := Aside0.mk hlen; clear hC3 hS3 hb3 k2 he3 hl3 hl3' hl4 hlen)
        have ks := Aside0.mk (money_Sum.calls A3 c3 l3 a 0 w2 HC3.out HL4.out (by
          unfold money_Sum.f
          rw [HL3.out, if_pos ⟨pro_i64 HP.out HA.out, by rw [proL_len]; exact hm⟩, pro_one HP.out]
          unfold small
          rw [if_pos HA.out]))
        rw [HLN.out] at ks
        clear HLN HL4
        go_wp2_with (go_at_call 14; (with_reducible refine ks.out.mono ?_); rintro e w4 ⟨rfl, hb⟩; have HB4 := Aside0.mk (below_step' HB3.out hb.below); have HC4 := Aside0.mk (Kd.C_below HC3.out hb.below); clear hb ks)
        have hz1 : IntKind.i64.wrap ((ds.length : Int) - 1) = ((ds.length - 1 : Nat) : Int) := by rw [IntKind.wrap_i64]; omega
        obtain ⟨m, hm1⟩ : ∃ m, m = ds.length - 1 := ⟨_, rfl⟩
        rw [← hm1] at hz1
        have HM1 := Aside0.mk (show m + 1 = ds.length by omega)
        clear hm1
        go_loopw [12] (fun vi wr => ∃ i : Nat, i ≤ m ∧ vi = .int .i64 i ∧ Aside0 (Below w.heap.size w wr) ∧ Aside0 (Below w4.heap.size w4 wr)) (fun i _ => m - (intOf i).toNat)
        case atStart => exact ⟨0, Nat.zero_le _, rfl, HB4, ⟨Below.refl _ _⟩⟩
        case round =>
          obtain ⟨i, hi, rfl, HBX, HBY⟩ := hrel
          by_cases him : i < m
          · have hiz : (i : Int) < (m : Int) := by omega
            have him1 := HM1.out
            have hiz2 : (i : Int) < (ds.length : Int) := by omega
            obtain ⟨ad, e1, hx⟩ := Kd.at_int (Kd.C_below HR.out HBX.out) i (by omega) (by omega)
            obtain ⟨ad2, e2, hy⟩ := Kd.at_int (Kd.C_below HC4.out HBY.out) i (by omega) (by have := HL3.out; rw [this, proL_len]; omega)
            cases e1
            cases e2
            simp only [Int.toNat_natCast] at hx hy
            obtain ⟨x, hx0⟩ : ∃ x, x = ds.getD i 0 := ⟨_, rfl⟩
            obtain ⟨y, hy0⟩ : ∃ y, y = l3.getD i 0 := ⟨_, rfl⟩
            rw [show rd ds (i : Int) = x by rw [hx0]; rfl] at hx
            rw [show rd l3 (i : Int) = y by rw [hy0]; rfl] at hy
            have hp := pro_each HP.out i (by omega)
            rw [← HL3.out, ← hx0, ← hy0] at hp
            obtain ⟨rr, hrr⟩ : ∃ rr, rr = a * x % ds.sum := ⟨_, rfl⟩
            rw [← hrr] at hp
            have kp := Aside0.mk (money_Part.calls a x ds.sum y rr 0 wr hp)
            have hyb := Aside0.mk (World.block_lt_of_cell? wr _ hy)
            clear hx0 hy0 hp hrr him1
            go_wp2_with (go_at_call 15; (with_reducible refine kp.out.mono ?_); rintro e w5 ⟨rfl, hb⟩; have hy5 := (hb.below.cell hyb.out).trans hy; have HBX5 := Aside0.mk (below_step' HBX.out hb.below); have HBY5 := Aside0.mk (below_step' HBY.out hb.below); clear hb kp)
            go_roundw
            case measure => simp [intOf]; omega
            case rel => exact ⟨i + 1, by omega, by go_num, HBX5, HBY5⟩
          · obtain rfl : i = m := by omega
            have hiz : ¬ (i : Int) < (i : Int) := by omega
            go_wp2_with (go_at_call 11; (with_reducible refine (goes_calls _).mono ?_); rintro e w9 ⟨rfl, hb⟩; have HB9 := Aside0.mk (below_step' HBX.out hb); clear hb)
            go_ret
            exact ⟨rfl, HB9.out⟩
theorem ShareProration.walk {H : Type} {enc : TypeId × Value → H} (a : Int) (x : Option Addr) (len cap : Nat) (W : World) (w0 : (Lit.int .i64 a).wf = true) {d : DataW H} {p : List MemPlace}
    (k : DataW.Trod enc Try.prog W 0 (fun _ => true) true 22 (.slice x len cap) d p) :
    Calls Try.prog 5 #[.int .i64 a, .slice x len cap] W fun e w' => e = .returned (.bool true) ∧ Below W.heap.size W w' := by
  obtain ⟨l, rfl, hr, hc, hm, hi⟩ := nums_open k
  exact ShareProration.go a x l rfl W hr hc (wf_i64b a w0) hi hm
end Go.Proofs.Ytimdoddaaelfjaa.Ext
