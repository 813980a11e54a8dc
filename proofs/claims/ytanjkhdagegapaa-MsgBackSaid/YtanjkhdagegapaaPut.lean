/- The contracts of wire.put, Byte, Uint, Int and Text, proved by walking their code. -/
import Derived.Test.YtanjkhdagegapaaProg
import Derived.Test.YtanjkhdagegapaaH
import Derived.WalkKit
import Derived.KernelRfl
import Derived.Outline
import Derived.Laws.CopyOwn
import Derived.IntWalk
namespace Go.Proofs.Ytanjkhdagegapaa.Ext
open Go.RowKit Go.Proofs.YtanjkhdagegapaaW.PrintWords Go.Proofs.YtanjkhdagegapaaW.PrintLast Go.Proofs.YtanjkhdagegapaaW.PrintMore Go.Proofs.YtanjkhdagegapaaW.Hand
set_option linter.unusedVariables false

/-- A number's bytes, the highest first. -/
def beN : Nat → Int → List Int
  | 0, _ => []
  | n + 1, v => v / 256 ^ n % 256 :: beN n v
theorem beN_length (n : Nat) (v : Int) : (beN n v).length = n := by
  induction n with
  | zero => rfl
  | succ n ih => simp [beN, ih]
theorem set_mid (l t : List Int) (m : Nat) (x : Int) : (l ++ (List.replicate (m + 1) 0 ++ t)).set (l.length + m) x = l ++ (List.replicate m 0 ++ (x :: t)) := by
  rw [List.set_append_right _ _ (by omega)]
  congr 1
  have e : l.length + m - l.length = m := by omega
  rw [e, List.replicate_succ', List.append_assoc, List.set_append_right _ _ (by simp)]
  simp
theorem infoU8 : (Try.prog.info? 5).map (fun i => (i.zero, i.size, i.bytes)) = some (some (.int .u8 0), 1, 1) := by kernel_rfl
theorem sizeU8 : (Try.prog.info? 5).map (·.size) = some 1 := by kernel_rfl
theorem nums_get {k : IntKind} {xs : List Int} {j : Nat} (h : j < xs.length) : (nums k xs)[j]? = some (.int k (xs.getD j 0)) := by
  simp [nums, List.getElem?_eq_getElem h, List.getD_eq_getElem?_getD]
theorem C_cells {k : IntKind} {w : World} {A : Option Addr} {n : Nat} {xs : List Int} (h : Kd.C (Kd.int k) w A n xs) (h0 : 0 < n) : ∃ ad, A = some ad ∧ ∀ (j : Nat) (v : Value), (nums k xs)[j]? = some v → w.cell? (ad.add j) = some v := by
  have hr := Kd.reads_of_C (enc := Value.int k) (d := (0 : Int)) (h1 := fun _ => rfl) h
  obtain ⟨ad, e, hc⟩ := hr.2.2 h0
  refine ⟨ad, e, fun j v hv => ?_⟩
  have hl := hr.1
  have hj : j < xs.length := by
    rcases Nat.lt_or_ge j xs.length with hj | hj
    · exact hj
    · rw [List.getElem?_eq_none (by rw [nums_length]; exact hj)] at hv; cases hv
  rw [nums_get hj] at hv
  rw [hc j (by omega), Option.some.inj hv]

set_option maxHeartbeats 1600000 in
theorem put_any (A : Option Addr) (c : Nat) (l : List Int) (v : Int) (n : Nat) (wd : Int) (hwd : wd = n) (w : World) (hr : Kd.C (Kd.int .u8) w A l.length l) (hl : l.length + n ≤ 140737488355328) (hv : 0 ≤ v) (hv2 : v < 18446744073709551616) :
    Calls Try.prog 63 #[.slice A l.length c, .int .u64 v, .int .i64 wd] w fun e w' => ∃ v0 : Value, e = .returned v0 ∧ Kd.R (Kd.int .u8) 5 w' w.heap.size (fun _ => True) v0 (l ++ beN n v) ∧ Below w.heap.size w w' := by
  subst hwd
  have hm := print_make (P := Try.prog) 29 5 .u8 1 Try.underlying29 infoU8 (by decide) (l.length + n) (by omega)
  have ec : (((l.length + n : Nat)) : Int) = (l.length : Int) + (n : Int) := by omega
  rw [ec] at hm
  clear ec
  have HR := Aside0.mk hr
  clear hr
  obtain ⟨VB, HVB⟩ : ∃ B, Aside0 (B = (18446744073709551616 : Int)) := ⟨_, ⟨rfl⟩⟩
  rw [← HVB.out] at hv2
  have hmk : (madeCells #[Value.int .u8 0] (l.length + n)) = (List.replicate (l.length + n) (Value.int .u8 0)).toArray := by
    rw [← toList_madeCells_one]
  rw [hmk] at hm
  clear hmk
  obtain ⟨B0, HB0⟩ : ∃ o : Obj, Aside0 (o = .cells (List.replicate (l.length + n) (Value.int .u8 0)).toArray 5) := ⟨_, ⟨rfl⟩⟩
  rw [← HB0.out] at hm
  go_enter Try.func63, Try.ntmps63
  go_wp2_with (first
    | (with_reducible refine wpList_copy_splice rfl (.tmp 14) (.tmp 15) 29 29 rfl 5 Try.underlying29 sizeU8 (some ⟨w.heap.size, 0, none⟩) A (l.length + n) (l.length + n) l.length c rfl rfl w.heap.size 0 (List.replicate (l.length + n) (Value.int .u8 0)) 5 ?h1 (nums .u8 l) ?h2 ?h3 ?h4 ?h5 w.heap.size w ?h6 (Nat.le_refl _) ?h7)
    | fail)
  case h1 => rw [HB0.out]; exact heap_new _ _
  case h2 => rw [nums_length]; exact (Nat.min_eq_left (by omega)).symm
  case h3 =>
    intro h0
    rw [nums_length] at h0
    obtain ⟨ad, e, hc⟩ := C_cells HR.out h0
    exact ⟨ad, e, fun j x hx => (below_alloc (Below.refl _ _) _ : Below w.heap.size w (w.alloc B0)).cell (World.block_lt_of_cell? w _ (hc j x hx)) |>.trans (hc j x hx)⟩
  case h4 => rw [nums_length, List.length_replicate]; omega
  case h5 =>
    intro x hx
    simp only [nums, List.mem_map] at hx
    obtain ⟨y, _, rfl⟩ := hx
    rfl
  case h6 => exact below_alloc (Below.refl _ _) _
  case h7 =>
    intro w1 hh hb
    have HB1 := Aside0.mk hb
    have hrow : Kd.R (Kd.int .u8) 5 w1 w.heap.size (fun _ => True) (.slice (some ⟨w.heap.size, 0, none⟩) (l.length + n) (l.length + n)) (l ++ (List.replicate n 0 ++ beN 0 v)) := by
      refine Kd.R_of_own (enc := Value.int .u8) (h1 := fun _ => rfl) ?_ (fun _ _ => trivial)
      have hlen : (l ++ (List.replicate n 0 ++ beN 0 v)).length = l.length + n := by simp [beN]
      rw [hlen]
      refine ⟨by simp [encs, beN], .inr ⟨w.heap.size, l.length + n, _, rfl, Nat.le_refl _, hh.out, Nat.le_refl _, by simp only [maxLen]; omega, by simp [splice, nums], ?_⟩⟩
      simp only [splice, List.take_zero, List.nil_append, Nat.zero_add, nums_length, List.drop_replicate]
      have e : encs (Value.int .u8) (l ++ (List.replicate n 0 ++ beN 0 v)) = nums .u8 l ++ List.replicate n (Value.int .u8 0) := by simp [encs, nums, beN]
      rw [e, show l.length + n - l.length = n from by omega]
      rw [List.take_of_length_le (by simp [nums])]
    have HROW := Aside0.mk hrow
    clear hrow hh hb hm
    go_wp2
    go_loopw [1, 8] (fun x i wr => ∃ j : Nat, j ≤ n ∧ i = .int .i64 ((l.length : Int) + (n : Int) - 1 - (j : Int)) ∧ x = .int .u64 (v / 256 ^ j) ∧ Aside0 (Kd.R (Kd.int .u8) 5 wr w.heap.size (fun _ => True) (.slice (some ⟨w.heap.size, 0, none⟩) (l.length + n) (l.length + n)) (l ++ (List.replicate (n - j) 0 ++ beN j v))) ∧ Aside0 (Below w.heap.size w wr))
      (fun _ i _ => (intOf i + 1 - l.length).toNat)
    case atStart => exact ⟨0, by omega, by simp, by simp, HROW, HB1⟩
    case round =>
      obtain ⟨j, hj, rfl, rfl, HW, HBW⟩ := hrel
      by_cases hlt : j < n
      · have hge : (l.length : Int) ≤ (l.length : Int) + (n : Int) - 1 - (j : Int) := by omega
        obtain ⟨m, hm⟩ : ∃ m, m = n - j - 1 := ⟨_, rfl⟩
        have e1 : (l.length : Int) + (n : Int) - 1 - (j : Int) = (l.length : Int) + (m : Int) := by omega
        rw [show n - j = m + 1 from by omega] at HW
        have hm1 : m + j + 1 ≤ n := by omega
        have hm2 : n ≤ m + j + 1 := by omega
        clear hm
        have HWn : Aside0 (Kd.R (Kd.int .u8) 5 (wr.setCell ⟨w.heap.size, l.length + m, none⟩ (.int .u8 (v / 256 ^ j % 256))) w.heap.size (fun _ => True) (.slice (some ⟨w.heap.size, 0, none⟩) (l.length + n) (l.length + n)) (l ++ (List.replicate m 0 ++ (v / 256 ^ j % 256 :: beN j v)))) := ⟨by
          have := Kd.R_putn (enc := Value.int .u8) (h1 := fun _ => rfl) HW.out ((l.length + m : Nat) : Int) (v / 256 ^ j % 256)
          rw [Int.toNat_natCast, set_mid] at this
          exact this⟩
        have HBn : Aside0 (Below w.heap.size w (wr.setCell ⟨w.heap.size, l.length + m, none⟩ (.int .u8 (v / 256 ^ j % 256)))) := ⟨HBW.out.setCell (Nat.le_refl _) _⟩
        obtain ⟨q1, q2⟩ := Kd.R_celln (enc := Value.int .u8) (h1 := fun _ => rfl) (0 : Int) HW.out ((l.length + m : Nat) : Int) (by omega) (by omega)
        simp only [Int.toNat_natCast] at q1 q2
        clear HW HBW
        go_wp2
        go_roundw
        case rel => exact ⟨j + 1, by omega, by go_num, by rw [Int.ediv_ediv_of_nonneg (Int.le_of_lt (Int.pow_pos (by decide))), ← Int.pow_succ], by rw [show n - (j + 1) = m from by omega]; exact HWn, HBn⟩
        case measure => simp [intOf]; omega
      · obtain rfl : j = n := by omega
        have hng : ¬ (l.length : Int) ≤ (l.length : Int) + (j : Int) - 1 - (j : Int) := by omega
        go_wp2
        go_ret
        refine ⟨_, rfl, ?_, HBW.out⟩
        have := HW.out
        rw [Nat.sub_self] at this
        simpa using this
/-- The top of 64 bits, under a name that the walk doesn't open. -/
def top64 : Int := 18446744073709551616
theorem u64_conv (v : Int) : IntKind.u64.wrap v = v % top64 := IntKind.wrap_u64 v
theorem Byte_any (A : Option Addr) (c : Nat) (l : List Int) (v : Int) (w : World) (hr : Kd.C (Kd.int .u8) w A l.length l) (hl : l.length ≤ 140737488355000) (hv : 0 ≤ v) (hv2 : v < 256) :
    Calls Try.prog 46 #[.slice A l.length c, .int .u8 v] w fun e w' => ∃ v0 : Value, e = .returned v0 ∧ Kd.R (Kd.int .u8) 5 w' w.heap.size (fun _ => True) v0 (l ++ beN 1 v) ∧ Below w.heap.size w w' := by
  have HR := Aside0.mk hr
  clear hr
  go_enter Try.func46, Try.ntmps46
  go_wp2_with (go_at_call 63; refine (put_any A c l v 1 1 rfl _ HR.out (by omega) hv (by omega)).mono ?_; rintro e w1 ⟨v0, rfl, ho, hb⟩; have HO := Aside0.mk ho; have HB := Aside0.mk hb; clear ho hb)
  go_ret
  exact ⟨v0, rfl, HO.out, HB.out⟩
theorem Uint_any (A : Option Addr) (c : Nat) (l : List Int) (v : Int) (w : World) (hr : Kd.C (Kd.int .u8) w A l.length l) (hl : l.length ≤ 140737488355000) (hv : 0 ≤ v) (hv2 : v < top64) :
    Calls Try.prog 43 #[.slice A l.length c, .int .u64 v] w fun e w' => ∃ v0 : Value, e = .returned v0 ∧ Kd.R (Kd.int .u8) 5 w' w.heap.size (fun _ => True) v0 (l ++ beN 8 v) ∧ Below w.heap.size w w' := by
  have HR := Aside0.mk hr
  clear hr
  go_enter Try.func43, Try.ntmps43
  go_wp2_with (go_at_call 63; refine (put_any A c l v 8 8 rfl _ HR.out (by omega) hv hv2).mono ?_; rintro e w1 ⟨v0, rfl, ho, hb⟩; have HO := Aside0.mk ho; have HB := Aside0.mk hb; clear ho hb)
  go_ret
  exact ⟨v0, rfl, HO.out, HB.out⟩
theorem top_pos (v : Int) : 0 ≤ v % top64 ∧ v % top64 < top64 := ⟨Int.emod_nonneg _ (by decide), Int.emod_lt_of_pos _ (by decide)⟩
theorem Int_any (A : Option Addr) (c : Nat) (l : List Int) (v : Int) (w : World) (hr : Kd.C (Kd.int .u8) w A l.length l) (hl : l.length ≤ 140737488355000) :
    Calls Try.prog 44 #[.slice A l.length c, .int .i64 v] w fun e w' => ∃ v0 : Value, e = .returned v0 ∧ Kd.R (Kd.int .u8) 5 w' w.heap.size (fun _ => True) v0 (l ++ beN 8 (v % top64)) ∧ Below w.heap.size w w' := by
  have HR := Aside0.mk hr
  clear hr
  have hc := u64_conv v
  have h1 := top_pos v
  go_enter Try.func44, Try.ntmps44
  go_wp2_with (go_at_call 43; refine (Uint_any A c l (v % top64) _ HR.out hl h1.1 h1.2).mono ?_; rintro e w1 ⟨v0, rfl, ho, hb⟩; have HO := Aside0.mk ho; have HB := Aside0.mk hb; clear ho hb)
  go_ret
  exact ⟨v0, rfl, HO.out, HB.out⟩
set_option maxHeartbeats 800000 in
theorem Text_any (A : Option Addr) (c : Nat) (l : List Int) (A2 : Option Addr) (c2 : Nat) (s : List Int) (w : World) (hr : Kd.C (Kd.int .u8) w A l.length l) (hr2 : Kd.C (Kd.int .u8) w A2 s.length s) (hl : l.length + s.length ≤ 140737488355000) :
    Calls Try.prog 45 #[.slice A l.length c, .slice A2 s.length c2] w fun e w' => ∃ v0 : Value, e = .returned v0 ∧ Kd.R (Kd.int .u8) 5 w' w.heap.size (fun _ => True) v0 (l ++ beN 4 s.length ++ s) ∧ Below w.heap.size w w' := by
  have HR := Aside0.mk hr
  have HR2 := Aside0.mk hr2
  have hw : IntKind.u64.wrap (s.length : Int) = (s.length : Int) := by rw [IntKind.wrap_u64]; omega
  clear hr hr2
  go_enter Try.func45, Try.ntmps45
  go_wp2_with (first
    | (go_at_call 63; refine (put_any A c l s.length 4 4 rfl _ HR.out (by omega) (by omega) (by omega)).mono ?_; rintro e w1 ⟨v0, rfl, ho, hb⟩; have HO := Aside0.mk ho; have HB := Aside0.mk hb; clear ho hb)
    | (at_builtin; refine Kd.R_append_row (Value.int .u8) (0 : Int) (w0 := w) w.heap.size rfl (.tmp 9) (.tmp 10) 29 5 (.int .u8 0) 1 rfl Try.underlying29 infoU8 rfl (by decide) v0 (l ++ beN 4 s.length) s A2 s.length c2 (fun _ => True) rfl rfl (fun _ _ => trivial) HO.out (Kd.C_below HR2.out HB.out) HB.out HB.out.size (by simp [beN_length]; omega) ?_; intro v1 w2 ho1 hb1 hg1 hat1; have HV1 := Aside0.mk ho1; have HB1 := Aside0.mk hb1; clear ho1 hb1 hg1 hat1))
  go_ret
  exact ⟨v1, rfl, HV1.out, HB1.out⟩
end Go.Proofs.Ytanjkhdagegapaa.Ext
