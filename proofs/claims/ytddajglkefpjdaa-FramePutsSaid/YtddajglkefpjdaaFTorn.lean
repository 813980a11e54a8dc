/- FrameTorn, proved by walking its code. -/
import Derived.Test.YtddajglkefpjdaaFExt
import Derived.Test.YtddajglkefpjdaaFLaw2
import Derived.Deep.RegionHeldLaw
import Derived.Test.YtddajglkefpjdaaOpen
namespace Go.Proofs.Ytddajglkefpjdaa.Ext
open Go.RowKit Go.Proofs.YtddajglkefpjdaaW.PrintWords Go.Proofs.YtddajglkefpjdaaW.PrintLast Go.Proofs.YtddajglkefpjdaaW.PrintMore Go.Proofs.YtddajglkefpjdaaW.Hand
attribute [local go_sem] max2_int min2_int max_two min_two
set_option linter.unusedVariables false
set_option maxRecDepth 100000 in
set_option maxHeartbeats 3200000 in
theorem torn_out (at_ kind s t mask : Int) (A1 A2 : Option Addr) (c1 c2 : Nat) (a b x y : List Int) (e1 e2 : Int) (w : World) (hC1 : Kd.C (Kd.int .u8) w A1 a.length a) (hc1 : a.length ≤ c1) (hC2 : Kd.C (Kd.int .u8) w A2 b.length b) (hc2 : b.length ≤ c2) (hk : 0 ≤ kind ∧ kind < 256) (hs : 0 ≤ s ∧ s < top64) (ht : 0 ≤ t ∧ t < top64)
    (hx : fputv at_ kind s a = (x, e1)) (hy : fputv at_ kind t b = (y, e2)) (h : e1 ≠ 0 ∨ e2 ≠ 0 ∨ s = t) :
    Calls Try.prog 4 #[.int .i64 at_, .int .u8 kind, .slice A1 a.length c1, .slice A2 b.length c2, .int .u64 s, .int .u64 t, .int .u8 mask] w fun e w' => e = .returned (.bool true) ∧ Below w.heap.size w w' := by
  have key : ∀ β1 β2 β3 : Bool, (e1 != 0) = β1 → (e2 != 0) = β2 → (s == t) = β3 → (β1 = true ∨ β2 = true ∨ β3 = true) →
      Calls Try.prog 4 #[.int .i64 at_, .int .u8 kind, .slice A1 a.length c1, .slice A2 b.length c2, .int .u64 s, .int .u64 t, .int .u8 mask] w fun e w' => e = .returned (.bool true) ∧ Below w.heap.size w w' := by
    intro β1 β2 β3 h1 h2 h3 hβ
    have kx := fPut_all at_ kind s A1 c1 a w hC1 hc1 hs.1 hs.2 hk
    have ky := Aside0.mk (fun w (hC2 : Kd.C (Kd.int .u8) w A2 b.length b) => fPut_all at_ kind t A2 c2 b w hC2 hc2 ht.1 ht.2 hk)
    rw [hx] at kx
    rw [hy] at ky
    have KX := Aside0.mk kx
    have HC2 := Aside0.mk hC2
    clear hx hy hC1 hc1 hC2 hc2 hk hs ht kx h
    cases β1 <;> cases β2 <;> cases β3 <;> simp at hβ
    all_goals
      go_enter Try.func4, Try.ntmps4
      go_wp2_with fail
      refine KX.out.mono ?_
      rintro e w1 ⟨v1, rfl, hr1, hb1⟩
      obtain ⟨X1, k1, ev⟩ := Kd.R_slice hr1
      subst ev
      have HB1 := Aside0.mk hb1
      have HC3 := Aside0.mk (Kd.C_below HC2.out hb1)
      clear hr1 hb1
      go_wp2_with fail
      refine (ky.out _ HC3.out).mono ?_
      rintro e w2 ⟨v2, rfl, hr2, hb2⟩
      obtain ⟨X2, k2, ev⟩ := Kd.R_slice hr2
      subst ev
      have HB2 := Aside0.mk (below_step HB1.out hb2)
      clear hr2 hb2
      go_wp2_with fail
      refine (goes_true _).mono ?_
      rintro e w3 ⟨rfl, hb3⟩
      have HB3 := Aside0.mk (below_step HB2.out hb3)
      clear hb3
      go_wp2_with fail
      go_ret
      exact ⟨rfl, HB3.out⟩
  refine key _ _ _ rfl rfl rfl ?_
  rcases h with h | h | h
  · exact .inl (bne_iff_ne.2 h)
  · exact .inr (.inl (bne_iff_ne.2 h))
  · exact .inr (.inr (beq_iff_eq.2 h))
theorem slice_midoff (g n a b : Nat) (h1 : a ≤ b) (h2 : b ≤ n) (h3 : a < n) (ai bi : Int) (ha : ai = (a : Int)) (hb : bi = (b : Int)) (W : World) : (Instr.slice 23 (.slice (some ⟨g, 0, none⟩) n n) (some (.int .i64 ai)) (some (.int .i64 bi)) none).run Try.prog W = .ok (.slice (some ⟨g, a, none⟩) (b - a) (n - a)) W := by
  subst ha; subst hb
  obtain ⟨i0, hi, hz0, hz1, hz2⟩ := info_parts infoU8
  have hel : Try.prog.elem 23 = 5 := by simp [Program.elem, Try.underlying23]
  have hu : Try.prog.underlying 23 = some (.slice (Try.prog.elem 23)) := by rw [hel]; exact Try.underlying23
  rw [run_slice_lh W 23 (some ⟨g, 0, none⟩) n n hu .i64 .i64 (a : Int) (b : Int) (by omega) (by omega) (by omega), hel]
  have hne : ¬ n = a := by omega
  simp [sizeOf, typeInfo, hi, hz1, sliced, Result.andThen, Addr.add, hne]
  intro h; rw [h]
theorem bit_and (m : Int) (j : Nat) (h0 : 0 ≤ m ∧ m < 256) : (bits .and .u8 (m / 2 ^ j) 1 == 1) = bitOf m j := by
  obtain ⟨n, rfl⟩ : ∃ n : Nat, m = n := ⟨m.toNat, by omega⟩
  have e : ((n : Int) / 2 ^ j) = ((n / 2 ^ j : Nat) : Int) := by simp
  have hl : n / 2 ^ j < 256 := Nat.lt_of_le_of_lt (Nat.div_le_self _ _) (by omega)
  unfold bitOf
  rw [e, show (1 : Int) = ((1 : Nat) : Int) from rfl, u8_and_nat _ 1 hl (by decide), Nat.and_one_is_mod]
  by_cases h : n / 2 ^ j % 2 = 1
  · rw [h, decide_eq_true (by omega)]; rfl
  · have h2 : n / 2 ^ j % 2 = 0 := by omega
    rw [h2, decide_eq_false (by omega)]; rfl
theorem fwf_u8 {a : Int} (h : (Lit.int .u8 a).wf = true) : 0 ≤ a ∧ a < 256 := by
  have h1 : IntKind.u8.min = 0 := rfl
  have h2 : IntKind.u8.max = 255 := rfl
  simp only [Lit.wf, Bool.and_eq_true, decide_eq_true_eq, h1, h2] at h
  omega
theorem fwf_u64 {a : Int} (h : (Lit.int .u64 a).wf = true) : 0 ≤ a ∧ a < top64 := by
  have h1 : IntKind.u64.min = 0 := rfl
  have h2 : IntKind.u64.max = 18446744073709551615 := rfl
  simp only [Lit.wf, Bool.and_eq_true, decide_eq_true_eq, h1, h2] at h
  unfold top64; omega
theorem fputv_ok {at_ kind s e : Int} {b x : List Int} (h : fputv at_ kind s b = (x, e)) (he : e = 0) : (0 ≤ at_ ∧ at_ < 4096 ∧ s ≠ 0) ∧ b.length ≤ 4011 := by
  unfold fputv at h
  split at h
  · injection h with _ h; omega
  · split at h
    · injection h with _ h; omega
    · omega
/-- What holds while the sectors are mixed. -/
structure TI (w W : World) (q p : Nat) (z : List Int) (p2 : Nat) (Y : List Int) : Prop where
  below : Below q w W
  row : RowAt W p z
  other : RowAt W p2 Y
  le : q ≤ p
  ne : p ≠ p2
theorem TI.step {w W W' : World} {q p p2 : Nat} {z Y : List Int} (h : TI w W q p z p2 Y) (hb : Below W.heap.size W W') : TI w W' q p z p2 Y :=
  ⟨h.below.trans (below_weak_ hb (by have := (Array.getElem?_eq_some_iff.1 h.row).1; have := h.le; omega)), h.row.below hb, h.other.below hb, h.le, h.ne⟩
theorem TI.copied {w W W' : World} {q p p2 : Nat} {z z' Y : List Int} (h : TI w W q p z p2 Y) (hg : W.grownBy W' (some p)) (hr : RowAt W' p z') : TI w W' q p z' p2 Y :=
  ⟨h.below.grown hg (by have := (Array.getElem?_eq_some_iff.1 h.row).1; have := h.le; omega) (fun k e => by injection e with e; have := h.le; omega), hr, h.other.grown hg (fun e => h.ne (by injection e with e; exact e.symm)), h.le, h.ne⟩
set_option maxRecDepth 100000 in
set_option maxHeartbeats 6400000 in
theorem torn_in (at_ kind s t mask : Int) (A1 A2 : Option Addr) (c1 c2 : Nat) (a b : List Int) (w : World) (hC1 : Kd.C (Kd.int .u8) w A1 a.length a) (hc1 : a.length ≤ c1) (hC2 : Kd.C (Kd.int .u8) w A2 b.length b) (hc2 : b.length ≤ c2) (hab : ∀ x ∈ a, IsByte x) (hbb : ∀ x ∈ b, IsByte x) (ha : a.length ≤ 4011) (hb : b.length ≤ 4011) (hat : 0 ≤ at_ ∧ at_ < 4096) (hk : 0 ≤ kind ∧ kind < 256) (hs : 0 < s ∧ s < top64) (ht : 0 < t ∧ t < top64) (hst : s ≠ t) (hm : 0 ≤ mask ∧ mask < 256) :
    Calls Try.prog 4 #[.int .i64 at_, .int .u8 kind, .slice A1 a.length c1, .slice A2 b.length c2, .int .u64 s, .int .u64 t, .int .u8 mask] w fun e w' => e = .returned (.bool true) ∧ Below w.heap.size w w' := by
  have d3 : (s == t) = false := beq_eq_false_iff_ne.2 hst
  have kx := Aside0.mk (fPut_row at_ kind s A1 c1 a w hC1 hc1 hat.1 hat.2 hs.1 hs.2 hk ha)
  have ky := Aside0.mk (fun w (hC2 : Kd.C (Kd.int .u8) w A2 b.length b) => fPut_row at_ kind t A2 c2 b w hC2 hc2 hat.1 hat.2 ht.1 ht.2 hk hb)
  have HT := Aside0.mk (torn_facts at_ kind s t mask a b ha hb hab hbb hat hk hs ht hst hm)
  have HZB := Aside0.mk (tmix_mem (fframe at_ kind s a) (fframe at_ kind t b) mask (fframe_bytes at_ kind s a hab) (fframe_bytes at_ kind t b hbb))
  have HZL := Aside0.mk (tmix_length (fframe at_ kind s a) (fframe at_ kind t b) mask (fframe_length _ _ _ _ ha) (fframe_length _ _ _ _ hb))
  have HSL := Aside0.mk (sector_length (fframe at_ kind t b) (fframe_length _ _ _ _ hb))
  have HYL := Aside0.mk (fframe_length at_ kind t b hb)
  have HA := Aside0.mk hC1
  have HB := Aside0.mk hC2
  have HAB := Aside0.mk hab
  have HBB := Aside0.mk hbb
  have HK := Aside0.mk hk
  have HM := Aside0.mk hm
  obtain ⟨X, hX⟩ : ∃ l, fframe at_ kind s a = l := ⟨_, rfl⟩
  obtain ⟨Y, hY⟩ : ∃ l, fframe at_ kind t b = l := ⟨_, rfl⟩
  rw [hX] at kx
  rw [hY] at ky HSL HYL
  rw [hX, hY] at HT HZB HZL
  clear hC1 hc1 hC2 hc2 hab hbb ha hb hat hk hs ht hst hm hX hY
  go_enter Try.func4, Try.ntmps4
  go_wp2_with fail
  refine kx.out.mono ?_
  rintro e w1 ⟨p, rfl, hr1, hp1, hb1⟩
  have HC3 := Aside0.mk (Kd.C_below HB.out hb1)
  have R1 := Aside0.mk hr1
  have P1 := Aside0.mk hp1
  have B1 := Aside0.mk hb1
  clear hr1 hp1 hb1 kx
  go_wp2_with fail
  refine (ky.out _ HC3.out).mono ?_
  rintro e w2 ⟨p2, rfl, hr2, hp2, hb2⟩
  have T2 : Aside0 (TI w w2 w.heap.size p (tmix X Y mask 0) p2 Y) := ⟨⟨below_step B1.out hb2, R1.out.below hb2, hr2, P1.out, by have := (Array.getElem?_eq_some_iff.1 R1.out).1; omega⟩⟩
  clear hr2 hp2 hb2 ky HC3 R1 P1 B1
  go_wp2_with fail
  go_loopw [19] (fun i wr => ∃ k : Nat, k ≤ 8 ∧ i = .int .i64 k ∧ Aside0 (TI w wr w.heap.size p (tmix X Y mask k) p2 Y)) (fun i _ => 8 - (intOf i).toNat)
  case atStart => exact ⟨0, Nat.zero_le _, rfl, T2⟩
  case round =>
    obtain ⟨k, hk8, rfl, TK⟩ := hrel
    by_cases hlt : k < 8
    · have hbit := bit_and mask k HM.out
      obtain ⟨β, hβ⟩ : ∃ β, bitOf mask k = β := ⟨_, rfl⟩
      rw [hβ] at hbit
      cases β with
      | false =>
        have HZ : Aside0 (tmix X Y mask (k + 1) = tmix X Y mask k) := ⟨by conv => lhs; unfold tmix; rw [if_neg (by rw [hβ]; decide)]⟩
        clear hβ
        go_wp2_with fail
        go_roundw
        case rel => exact ⟨k + 1, by omega, by go_num, ⟨by rw [HZ.out]; exact TK.out⟩⟩
        case measure => first | go_num | (simp [intOf]; omega) | (simp only [intOf]; omega)
      | true =>
        have HZ : Aside0 (tmix X Y mask (k + 1) = isplice (tmix X Y mask k) (512 * k) (sector Y k)) := ⟨by conv => lhs; unfold tmix; rw [if_pos hβ]⟩
        clear hβ
        have ew1 : IntKind.i64.wrap (512 * (k : Int)) = 512 * (k : Int) := by rw [IntKind.wrap_i64]; omega
        have ew2 : IntKind.i64.wrap (512 * (k : Int) + 512) = 512 * (k : Int) + 512 := by rw [IntKind.wrap_i64]; omega
        have e9 : ∀ W : World, (Instr.slice 23 (.slice (some ⟨p, 0, none⟩) 4096 4096) (some (.int .i64 (512 * (k : Int)))) (some (.int .i64 (512 * (k : Int) + 512))) none).run Try.prog W = .ok (.slice (some ⟨p, 512 * k, none⟩) 512 (4096 - 512 * k)) W := fun W => by
          have := slice_midoff p 4096 (512 * k) (512 * k + 512) (by omega) (by omega) (by omega) (512 * (k : Int)) (512 * (k : Int) + 512) (by omega) (by omega) W
          rwa [show 512 * k + 512 - 512 * k = 512 by omega] at this
        obtain ⟨A14, c14, s14, t14, l14⟩ := cut_mid (A := some ⟨p2, 0, none⟩) (c := 4096) (xs := Y) (a := 512 * k) (b := 512 * k + 512) (by omega) (by rw [HYL.out]; omega) (by rw [HYL.out]; exact Nat.le_refl _) (512 * (k : Int)) (512 * (k : Int) + 512) (by omega) (by omega)
        have TKd := Aside0.mk (TK.out.step (below_drew (Below.refl _ _)))
        have C14 := t14 wr.drew (TKd.out.other.C (by rw [HYL.out]; decide))
        rw [HYL.out] at s14
        rw [show 512 * k + 512 - 512 * k = 512 by omega] at s14 C14
        have C14' : Aside0 (Kd.C (Kd.int .u8) wr.drew A14 512 (sector Y k)) := ⟨C14⟩
        have HZk := Aside0.mk (HZL.out k hk8)
        have HSk := Aside0.mk (HSL.out k hlt)
        clear t14 l14 C14
        go_wp2_with fail
        refine wp_region_noPanic ?_
        go_region_held_law (fun w' => True) (exact trivial) (first | (refine copy_u8_step rfl (.tmp 89) (.tmp 96) rfl p (512 * k) 512 (4096 - 512 * k) A14 512 c14 (tmix X Y mask k) (sector Y k) rfl rfl HSk.out (Nat.le_refl _) (by rw [HZk.out]; omega) TKd.out.row C14'.out ?_; intro w5 hr5 hg5 hs5; have T5 := Aside0.mk (TKd.out.copied hg5 hr5.out); clear hr5 hg5 hs5))
        refine NoPanic.normal ?_
        go_wp2_with fail
        go_roundw
        case rel => exact ⟨k + 1, by omega, by go_num, ⟨by rw [HZ.out]; exact T5.out⟩⟩
        case measure => first | go_num | (simp [intOf]; omega) | (simp only [intOf]; omega)
    · obtain rfl : k = 8 := by omega
      have hzl := HZL.out 8 (Nat.le_refl _)
      have HZb := Aside0.mk (HZB.out 8)
      obtain ⟨Z, hZ⟩ : ∃ l, tmix X Y mask 8 = l := ⟨_, rfl⟩
      rw [hZ] at TK hzl HT HZb
      have HZl := Aside0.mk hzl
      have CZ := Aside0.mk (TK.out.row.C (by rw [hzl]; decide))
      rw [hzl] at CZ
      clear hZ hzl
      go_wp2_with fail
      by_cases hm0 : mask = 0
      · subst hm0
        refine (fGet_at (some ⟨p, 0, none⟩) 4096 4096 Z HZl.out HZb.out at_ kind s a true HK.out wr CZ.out (Nat.le_refl _) (HT.out.none rfl)).mono ?_
        rintro e w3 ⟨A3, c3, rfl, hr3, hb3⟩
        have B3 := Aside0.mk (below_step TK.out.below (below_weak_ hb3 (Nat.le_refl _)))
        have k1 := own_string (P := Try.prog) Try.underlying23 Try.underlying5 Try.underlying9 (Kd.own_of_R hr3)
        have k2 := Kd.C_string (P := Try.prog) (c := c1) Try.underlying23 Try.underlying5 Try.underlying9 (Kd.C_below HA.out B3.out)
        obtain ⟨S, hS⟩ : ∃ S, strOfNums a = S := ⟨_, rfl⟩
        rw [hS] at k1 k2
        clear hr3 hb3 hS
        go_wp2_with fail
        refine (goes_true _).mono ?_
        rintro e w4 ⟨rfl, hb4⟩
        have B4 := Aside0.mk (below_step B3.out hb4)
        clear hb4
        go_wp2_with fail
        go_ret
        exact ⟨rfl, B4.out⟩
      by_cases hm255 : mask = 255
      · subst hm255
        refine (fGet_at (some ⟨p, 0, none⟩) 4096 4096 Z HZl.out HZb.out at_ kind t b true HK.out wr CZ.out (Nat.le_refl _) (HT.out.all rfl)).mono ?_
        rintro e w3 ⟨A3, c3, rfl, hr3, hb3⟩
        have B3 := Aside0.mk (below_step TK.out.below (below_weak_ hb3 (Nat.le_refl _)))
        have k1 := own_string (P := Try.prog) Try.underlying23 Try.underlying5 Try.underlying9 (Kd.own_of_R hr3)
        have k2 := Kd.C_string (P := Try.prog) (c := c2) Try.underlying23 Try.underlying5 Try.underlying9 (Kd.C_below HB.out B3.out)
        obtain ⟨S, hS⟩ : ∃ S, strOfNums b = S := ⟨_, rfl⟩
        rw [hS] at k1 k2
        clear hr3 hb3 hS
        go_wp2_with fail
        refine (goes_true _).mono ?_
        rintro e w4 ⟨rfl, hb4⟩
        have B4 := Aside0.mk (below_step B3.out hb4)
        clear hb4
        go_wp2_with fail
        go_ret
        exact ⟨rfl, B4.out⟩
      obtain ⟨hg, hv⟩ := HT.out.some hm0 hm255
      have b0 : (mask == 0) = false := beq_eq_false_iff_ne.2 hm0
      have b255 : (mask == 255) = false := beq_eq_false_iff_ne.2 hm255
      refine (fGet_at (some ⟨p, 0, none⟩) 4096 4096 Z HZl.out HZb.out at_ kind 0 [] false HK.out wr CZ.out (Nat.le_refl _) hg).mono ?_
      rintro e w3 ⟨A3, c3, rfl, _, hb3⟩
      have B3 := Aside0.mk (below_step TK.out.below hb3)
      have C3 := Aside0.mk (Kd.C_below CZ.out hb3)
      have kn := Aside0.mk (fun v (hv : fnewv Z = v) => fNew_at (some ⟨p, 0, none⟩) 4096 4096 Z HZl.out HZb.out v w3 C3.out (Nat.le_refl _) hv)
      clear hb3 hg hm0 hm255
      by_cases hst : s < t
      · rw [if_pos hst] at hv
        have kn2 := Aside0.mk (kn.out t hv)
        clear hv kn
        go_wp2_with (go_at_call 12; refine kn2.out.mono ?_; rintro e w4 ⟨rfl, hb4⟩; have B4 := Aside0.mk (below_step B3.out hb4); clear hb4 kn2)
        refine (goes_true _).mono ?_
        rintro e w5 ⟨rfl, hb5⟩
        have B5 := Aside0.mk (below_step B4.out hb5)
        clear hb5
        go_wp2_with fail
        go_ret
        exact ⟨rfl, B5.out⟩
      · rw [if_neg hst] at hv
        have kn2 := Aside0.mk (kn.out s hv)
        clear hv kn
        have hts : t < s := by have := beq_eq_false_iff_ne.1 d3; omega
        clear hst
        go_wp2_with (go_at_call 12; refine kn2.out.mono ?_; rintro e w4 ⟨rfl, hb4⟩; have B4 := Aside0.mk (below_step B3.out hb4); clear hb4 kn2)
        refine (goes_true _).mono ?_
        rintro e w5 ⟨rfl, hb5⟩
        have B5 := Aside0.mk (below_step B4.out hb5)
        clear hb5
        go_wp2_with fail
        go_ret
        exact ⟨rfl, B5.out⟩
theorem FrameTorn.walk {H : Type} {enc : TypeId × Value → H} (at_ kind s t mask : Int) (A1 A2 : Option Addr) (n1 n2 c1 c2 : Nat) (w : World) (w0 : (Lit.int .i64 at_).wf = true) (w1 : (Lit.int .u8 kind).wf = true) (w4 : (Lit.int .u64 s).wf = true) (w5 : (Lit.int .u64 t).wf = true) (w6 : (Lit.int .u8 mask).wf = true)
    {d2 d3 : DataW H} {p2 p3 : List MemPlace} (k2 : DataW.Trod enc Try.prog w 0 (fun _ => true) true 23 (.slice A1 n1 c1) d2 p2) (k3 : DataW.Trod enc Try.prog w 0 (fun _ => true) true 23 (.slice A2 n2 c2) d3 p3) :
    Calls Try.prog 4 #[.int .i64 at_, .int .u8 kind, .slice A1 n1 c1, .slice A2 n2 c2, .int .u64 s, .int .u64 t, .int .u8 mask] w fun e w' => e = .returned (.bool true) ∧ Below w.heap.size w w' := by
  obtain ⟨a, rfl, hr1, hc1, hb1⟩ := bytes_come k2
  obtain ⟨b, rfl, hr2, hc2, hb2⟩ := bytes_come k3
  have hk := fwf_u8 w1
  have hm := fwf_u8 w6
  have hs := fwf_u64 w4
  have ht := fwf_u64 w5
  obtain ⟨⟨x, e1⟩, hx⟩ : ∃ p, fputv at_ kind s a = p := ⟨_, rfl⟩
  obtain ⟨⟨y, e2⟩, hy⟩ : ∃ p, fputv at_ kind t b = p := ⟨_, rfl⟩
  by_cases h : e1 ≠ 0 ∨ e2 ≠ 0 ∨ s = t
  · exact torn_out at_ kind s t mask A1 A2 c1 c2 a b x y e1 e2 w hr1 hc1 hr2 hc2 hk hs ht hx hy h
  · obtain ⟨h1, h2⟩ := fputv_ok hx (by omega)
    obtain ⟨h3, h4⟩ := fputv_ok hy (by omega)
    exact torn_in at_ kind s t mask A1 A2 c1 c2 a b w hr1 hc1 hr2 hc2 hb1 hb2 h2 h4 ⟨h1.1, h1.2.1⟩ hk ⟨by omega, hs.2⟩ ⟨by omega, ht.2⟩ (by omega) hm
end Go.Proofs.Ytddajglkefpjdaa.Ext
