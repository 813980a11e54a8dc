/- frame.check, proved by walking its code. -/
import Derived.Test.YtddajglkefpjdaaRevB
import Derived.Deep.RegionHeld3
namespace Go.Proofs.Ytddajglkefpjdaa.Ext
open Go.RowKit Go.Shelf Go.Proofs.YtddajglkefpjdaaW.PrintWords Go.Proofs.YtddajglkefpjdaaW.PrintLast Go.Proofs.YtddajglkefpjdaaW.PrintMore Go.Proofs.YtddajglkefpjdaaW.Hand
set_option linter.unusedVariables false
theorem crcBytes_lt (l : List Int) : ∀ n : Nat, n < 4294967296 → crcBytes n l < 4294967296 := by
  induction l with
  | nil => intro n h; exact h
  | cons c l ih => intro n h; exact ih _ (crcByte_lt n c h)
/-- The four bytes of a check. -/
def fcheck (stamp : Int) (d : List Int) : List Int := placeOf (4294967295 - ((crcBytes 4294967295 (beN 8 stamp ++ d) : Nat) : Int))
theorem fcheck_length (stamp : Int) (d : List Int) : (fcheck stamp d).length = 4 := rfl
theorem Uint_new (v : Int) (w : World) (h0 : 0 ≤ v) (h1 : v < top64) :
    Calls Try.prog 14 #[.slice none 0 0, .int .u64 v] w fun e w' => ∃ A c, e = .returned (.slice A 8 c) ∧ 8 ≤ c ∧ Kd.C (Kd.int .u8) w' A 8 (beN 8 v) ∧ Kd.R (Kd.int .u8) 5 w' w.heap.size (fun _ => True) (.slice A 8 c) (beN 8 v) ∧ Below w.heap.size w w' := by
  refine (Uint_any none 0 [] v w (Kd.C_nil _ _) (by decide) h0 h1).mono ?_
  rintro e w1 ⟨v1, rfl, hr, hb⟩
  obtain ⟨A1, c1, ev⟩ := Kd.R_slice hr
  subst ev
  have C1 := (Kd.R_reads' hr).2.2
  have L1 := (Kd.R_reads' hr).2.1
  simp only [List.nil_append, beN_length] at C1 L1 hr ⊢
  exact ⟨A1, c1, rfl, L1, C1, hr, hb⟩
theorem check_two {w : World} {A1 A2 : Option Addr} {c1 c2 n2 : Nat} {x y : List Int} {n1 : Nat} (h1 : Kd.C (Kd.int .u8) w A1 n1 x) (l1 : n1 ≤ c1) (h2 : Kd.C (Kd.int .u8) w A2 n2 y) (hy : y.length = n2) (l2 : n2 ≤ c2) :
    Kd.C (Kd.slice 5 (Kd.int .u8)) (w.alloc (Obj.cells #[.slice A1 n1 c1, .slice A2 n2 c2] 23)) (some ⟨w.heap.size, 0, none⟩) 2 [x, y] := by
  refine C_slices (xss := [x, y]) (heap_new _ _) rfl (fun j l hj => ?_) (by simp)
  have hx : x.length = n1 := by have := h1.1; omega
  match j, hj with
  | 0, hj =>
    obtain rfl := Option.some.inj hj
    exact ⟨A1, c1, by rw [hx]; rfl, by omega, by rw [hx]; exact Kd.C_alloc h1 _⟩
  | 1, hj =>
    obtain rfl := Option.some.inj hj
    exact ⟨A2, c2, by rw [hy]; rfl, by omega, by rw [hy]; exact Kd.C_alloc h2 _⟩
theorem crc_two (x y : List Int) (m : Int) (A : Option Addr) (w : World) (hC : Kd.C (Kd.slice 5 (Kd.int .u8)) w A 2 [x, y]) (h : crc_Check.f [x, y] = some m) :
    Calls Try.prog 27 #[.slice A 2 2] w fun e w' => e = .returned (.int .u32 m) ∧ Below w.heap.size w w' := crc_Check.calls A 2 [x, y] m w hC (Nat.le_refl _) h
set_option maxHeartbeats 1600000 in
theorem check_calls (stamp : Int) (A : Option Addr) (c : Nat) (inn : List Int) (w : World) (hC : Kd.C (Kd.int .u8) w A inn.length inn) (hl : inn.length = 4032) (hc : 4032 ≤ c) (h0 : 0 ≤ stamp) (h1 : stamp < top64) :
    Calls Try.prog 16 #[.int .u64 stamp, .slice A 4032 c] w fun e w' => ∃ A' c', e = .returned (.slice A' 4 c') ∧ 4 ≤ c' ∧ Kd.C (Kd.int .u8) w' A' 4 (fcheck stamp (inn.take 4028)) ∧ Below w.heap.size w w' := by
  have ku := Aside0.mk (fun w => Uint_new stamp w h0 h1)
  obtain ⟨s1, t1⟩ := cut_to .i64 (A := A) (c := c) (xs := inn) (b := 4028) (by omega) (by omega) 4028 rfl
  rw [hl] at s1
  have T1 := Aside0.mk (t1 w hC)
  have hl2 : (inn.take 4028).length = 4028 := by rw [List.length_take]; omega
  rw [hl2] at T1
  obtain ⟨m, hm⟩ : ∃ m : Nat, 4294967295 - crcBytes 4294967295 (beN 8 stamp ++ inn.take 4028) = m := ⟨_, rfl⟩
  have hcl := crcBytes_lt (beN 8 stamp ++ inn.take 4028) 4294967295 (by decide)
  have hmi : (4294967295 - ((crcBytes 4294967295 (beN 8 stamp ++ inn.take 4028) : Nat) : Int)) = (m : Int) := by omega
  have HF : Aside0 (fcheck stamp (inn.take 4028) = placeOf (m : Int)) := ⟨by unfold fcheck; rw [hmi]⟩
  have kf : crc_Check.f [beN 8 stamp, inn.take 4028] = some (m : Int) := by
    unfold crc_Check.f
    rw [crcParts_flat]
    simp only [List.flatten_cons, List.flatten_nil, List.append_nil]
    rw [hmi]
  have KF := Aside0.mk kf
  have hml : m < 4294967296 := by omega
  have HL2 := Aside0.mk hl2
  have Hc := Aside0.mk hc
  clear hC t1 hl2 kf hmi hcl hm hc
  go_enter Try.func16, Try.ntmps16
  go_wp2_with fail
  refine wp_region_noPanic ?_
  go_region_held (fun w' => True) (exact trivial) (first
    | (go_at_call 14; (with_reducible refine (ku.out _).mono ?_); rintro e w1 ⟨A1, c1, rfl, hl1, hc1, _, hb⟩; have C1 := Aside0.mk hc1; have L1 := Aside0.mk hl1; have T2 := Aside0.mk (Kd.C_below (Kd.C_drew T1.out) hb); have HB := Aside0.mk (below_step (below_drew (Below.refl _ _)) hb); clear hl1 hc1 hb ku T1)
    | (go_at_call 27; (have C3 := check_two C1.out L1.out T2.out HL2.out (by have := Hc.out; omega : 4028 ≤ c)); (with_reducible refine (crc_two (beN 8 stamp) (inn.take 4028) m _ _ C3 KF.out).mono ?_); rintro e w2 ⟨rfl, hb⟩; have HB2 := Aside0.mk (below_step (below_alloc HB.out _) hb); clear hb))
  refine NoPanic.normal ?_
  go_wp2_with fail
  refine (rev_calls m hml _).mono ?_
  rintro e w3 ⟨rfl, rfl⟩
  have hrl := revB_lt m
  have kr := Aside0.mk (fun w => Uint_new ((revB m : Nat) : Int) w (by omega) (by unfold top64; omega))
  have BR := Aside0.mk (beN_rev m hml)
  have ew : IntKind.u64.wrap ((revB m : Nat) : Int) = ((revB m : Nat) : Int) := by rw [IntKind.wrap_u64]; omega
  obtain ⟨r, hr⟩ : ∃ r, revB m = r := ⟨_, rfl⟩
  rw [hr] at kr BR ew ⊢
  rw [hr] at hrl
  clear hr C1 L1 T2 C3 HB
  go_wp2_with fail
  refine (kr.out _).mono ?_
  rintro e w4 ⟨A4, c4, rfl, hl4, hc4, _, hb⟩
  have HB3 := Aside0.mk (below_step HB2.out hb)
  obtain ⟨A5, c5, s5, t5, l5⟩ := cut_from .i64 (A := A4) (c := c4) (xs := beN 8 (r : Int)) (a := 4) (by rw [beN_length]; decide) (by rw [beN_length]; exact hl4) 4 rfl
  have C5 := t5 w4 (by rw [beN_length]; exact hc4)
  rw [BR.out] at C5 l5 s5
  rw [beN_length] at s5
  have C5' : Aside0 (Kd.C (Kd.int .u8) w4 A5 4 (fcheck stamp (inn.take 4028))) := ⟨by rw [HF.out]; exact C5⟩
  have L5 : Aside0 (4 ≤ c5) := ⟨l5⟩
  have s5 : ∀ W : World, (Instr.slice 23 (.slice A4 8 c4) (some (.int .i64 4)) none none).run Try.prog W = .ok (.slice A5 4 c5) W := s5
  clear C5 l5 t5 hb hc4 kr
  go_wp2_with fail
  go_ret
  exact ⟨A5, c5, rfl, L5.out, C5'.out, HB3.out⟩
end Go.Proofs.Ytddajglkefpjdaa.Ext
