/- FramePuts, proved by walking its code. -/
import Derived.Test.YtddajglkefpjdaaFRef
import Derived.Test.YtddajglkefpjdaaFTorn
import Derived.Deep.RegionHeld3
namespace Go.Proofs.Ytddajglkefpjdaa.Ext
open Go.RowKit Go.ChangeShapes Go.WideShapes Go.Proofs.YtddajglkefpjdaaW.PrintWords Go.Proofs.YtddajglkefpjdaaW.PrintLast Go.Proofs.YtddajglkefpjdaaW.PrintMore Go.Proofs.YtddajglkefpjdaaW.Hand
set_option linter.unusedVariables false
theorem fputv_may {at_ kind s : Int} {b x : List Int} {e1 : Int} (h : fputv at_ kind s b = (x, e1)) : (if at_ < 0 ∨ 4095 < at_ ∨ s = 0 then (1 : Int) else if 4011 < (b.length : Int) then 2 else 0) = e1 ∧ (e1 ≠ 0 → x = []) := by
  unfold fputv at h
  by_cases h1 : at_ < 0 ∨ 4096 ≤ at_ ∨ s = 0
  · rw [if_pos h1] at h
    injection h with h2 h3
    rw [if_pos (by omega)]
    exact ⟨h3, fun _ => h2.symm⟩
  · rw [if_neg h1] at h
    rw [if_neg (by omega)]
    by_cases h4 : 4011 < b.length
    · rw [if_pos h4] at h
      injection h with h2 h3
      rw [if_pos (by omega)]
      exact ⟨h3, fun _ => h2.symm⟩
    · rw [if_neg h4] at h
      injection h with h2 h3
      rw [if_neg (by omega)]
      exact ⟨h3, fun h => absurd h3.symm h⟩
set_option maxRecDepth 100000 in
set_option maxHeartbeats 3200000 in
theorem puts_out (at_ kind s : Int) (A : Option Addr) (c : Nat) (b x : List Int) (e1 : Int) (w : World) (hC : Kd.C (Kd.int .u8) w A b.length b) (hc : b.length ≤ c) (hl : b.length ≤ 5000) (hk : 0 ≤ kind ∧ kind < 256) (hs : 0 ≤ s ∧ s < top64) (hx : fputv at_ kind s b = (x, e1)) (h : e1 ≠ 0) :
    Calls Try.prog 3 #[.int .i64 at_, .int .u8 kind, .int .u64 s, .slice A b.length c] w fun e w' => e = .returned (.bool true) ∧ Below w.heap.size w w' := by
  obtain ⟨hm, hx0⟩ := fputv_may hx
  obtain rfl := hx0 h
  have km := Aside0.mk (fun w => may_calls at_ s b.length w)
  rw [hm] at km
  have d1 : (e1 != 0) = true := bne_iff_ne.2 h
  have kx := Aside0.mk (fun w (hC : Kd.C (Kd.int .u8) w A b.length b) => fPut_all at_ kind s A c b w hC hc hs.1 hs.2 hk)
  rw [hx] at kx
  have HC := Aside0.mk hC
  have k0 := Kd.C_string (P := Try.prog) (c := c) Try.underlying23 Try.underlying5 Try.underlying9 hC
  have kst : Aside0 (∀ W : World, Kd.C (Kd.int .u8) W A b.length b → (convert 23 9 (.slice A b.length c)).run Try.prog W = .ok (.string (strOfNums b)) W) := ⟨fun W h => Kd.C_string (P := Try.prog) (c := c) Try.underlying23 Try.underlying5 Try.underlying9 h⟩
  obtain ⟨BS, hBS⟩ : ∃ S, strOfNums b = S := ⟨_, rfl⟩
  rw [hBS] at k0 kst
  have hl5 : (b.length : Int) ≤ 5000 := by omega
  clear hx hC hc hk hs hm hx0 hBS hl
  go_enter Try.func3, Try.ntmps3
  go_wp2_with fail
  refine (kx.out _ HC.out).mono ?_
  rintro e w1 ⟨v1, rfl, hr1, hb1⟩
  obtain ⟨X1, k1, ev⟩ := Kd.R_slice hr1
  subst ev
  have HB1 := Aside0.mk hb1
  clear hr1 hb1 k0
  go_wp2_with fail
  refine (km.out _).mono ?_
  rintro e w2 ⟨rfl, hb2⟩
  have HB2 := Aside0.mk (below_step HB1.out hb2)
  have ks2 := kst.out w2 (Kd.C_below HC.out HB2.out)
  clear hb2 HB1
  go_wp2_with fail
  refine (goes_true _).mono ?_
  rintro e w3 ⟨rfl, hb3⟩
  have HB3 := Aside0.mk (below_step HB2.out hb3)
  clear hb3
  go_wp2_with fail
  go_ret
  exact ⟨rfl, HB3.out⟩
set_option maxRecDepth 100000 in
set_option maxHeartbeats 3200000 in
theorem puts_in (at_ kind s : Int) (A : Option Addr) (c : Nat) (b : List Int) (w : World) (hC : Kd.C (Kd.int .u8) w A b.length b) (hc : b.length ≤ c) (hbb : ∀ x ∈ b, IsByte x) (hb : b.length ≤ 4011) (hat : 0 ≤ at_ ∧ at_ < 4096) (hk : 0 ≤ kind ∧ kind < 256) (hs : 0 < s ∧ s < top64) :
    Calls Try.prog 3 #[.int .i64 at_, .int .u8 kind, .int .u64 s, .slice A b.length c] w fun e w' => e = .returned (.bool true) ∧ Below w.heap.size w w' := by
  have hx : fputv at_ kind s b = (fframe at_ kind s b, 0) := by unfold fputv; rw [if_neg (by omega), if_neg (by omega)]
  have hpl := fframe_length at_ kind s b hb
  have kx := Aside0.mk (fun w (hC : Kd.C (Kd.int .u8) w A b.length b) => fPut_at at_ kind s A c b.length b rfl (fframe at_ kind s b) 0 4096 hpl w hC hc (by omega) hs.2 hk hx)
  obtain ⟨hm, _⟩ := fputv_may hx
  have km := Aside0.mk (fun w => may_calls at_ s b.length w)
  rw [hm] at km
  have kr := Aside0.mk (fun w => rframe_calls at_ kind s b hb hbb hat hk hs w)
  have kn := Aside0.mk (fun (X : Option Addr) (k : Nat) (w : World) (h1 : Kd.C (Kd.int .u8) w X 4096 (fframe at_ kind s b)) (h2 : 4096 ≤ k) => fNew_at X k 4096 (fframe at_ kind s b) hpl (fframe_bytes at_ kind s b hbb) s w h1 h2 (fnewv_frame at_ kind s b hb hs))
  have HC := Aside0.mk hC
  have k0 := Kd.C_string (P := Try.prog) (c := c) Try.underlying23 Try.underlying5 Try.underlying9 hC
  have kst : Aside0 (∀ W : World, Kd.C (Kd.int .u8) W A b.length b → (convert 23 9 (.slice A b.length c)).run Try.prog W = .ok (.string (strOfNums b)) W) := ⟨fun W h => Kd.C_string (P := Try.prog) (c := c) Try.underlying23 Try.underlying5 Try.underlying9 h⟩
  obtain ⟨BS, hBS⟩ : ∃ S, strOfNums b = S := ⟨_, rfl⟩
  rw [hBS] at k0 kst kr
  obtain ⟨P, hP⟩ : ∃ l, fframe at_ kind s b = l := ⟨_, rfl⟩
  rw [hP] at kx kr kn
  obtain ⟨PS, hPS⟩ : ∃ S, strOfNums P = S := ⟨_, rfl⟩
  rw [hPS] at kr
  have HPS := Aside0.mk hPS
  have hl5 : (b.length : Int) ≤ 5000 := by omega
  clear hx hC hc hbb hk hs hm hBS hb hat hpl hP hPS
  go_enter Try.func3, Try.ntmps3
  go_wp2_with fail
  refine (kx.out _ HC.out).mono ?_
  rintro e w1 ⟨A1, c1, rfl, hl1, hc1, _, hb1⟩
  have C1 := Aside0.mk hc1
  have L1 := Aside0.mk hl1
  have HB1 := Aside0.mk hb1
  clear hc1 hl1 hb1 k0
  go_wp2_with fail
  refine (km.out _).mono ?_
  rintro e w2 ⟨rfl, hb2⟩
  have HB2 := Aside0.mk (below_step HB1.out hb2)
  have C2 := Aside0.mk (Kd.C_below C1.out hb2)
  have ks2 := kst.out w2 (Kd.C_below HC.out HB2.out)
  clear hb2 HB1
  go_wp2_with fail
  have Sall : Aside0 (∀ W : World, Below w2.heap.size w2 W → (convert 23 9 (.slice A1 4096 c1)).run Try.prog W = .ok (.string PS) W) := ⟨fun W hW => by rw [← HPS.out]; exact Kd.C_string (P := Try.prog) (c := c1) Try.underlying23 Try.underlying5 Try.underlying9 (Kd.C_below C2.out hW)⟩
  have K0 := Aside0.mk (below_drew (Below.refl w2.heap.size w2))
  refine region_once (fun a W => a.tmps.getD 8 undef = .bool true ∧ a.defers = [] ∧ Below w2.heap.size w2 W) ?_ ?_
  · go_region_held (fun W : World => (convert 23 9 (.slice A1 4096 c1)).run Try.prog W = .ok (.string PS) W)
      (first
        | exact Sall.out _ K0.out
        | exact Sall.out _ K1.out
        | exact Sall.out _ K2.out
        | exact Sall.out _ K3.out)
      (first
        | (go_at_call 11; (with_reducible refine (kr.out _).mono ?_); rintro e w3 ⟨rfl, hb⟩; (have K1 := Aside0.mk (below_step K0.out hb)); clear hb)
        | (go_at_call 12; (with_reducible refine (kn.out _ _ _ (Kd.C_below C2.out K1.out) L1.out).mono ?_); rintro e w4 ⟨rfl, hb⟩; (have K2 := Aside0.mk (below_step K1.out hb)); clear hb)
        | (go_at_call 10; (with_reducible refine (goes_true _).mono ?_); rintro e w5 ⟨rfl, hb⟩; (have K3 := Aside0.mk (below_step K2.out hb)); clear hb))
    all_goals exact NoPanic.normal ⟨rfl, rfl, K3.out⟩
  · rintro ⟨t, d⟩ W ⟨h8, hd, hbW⟩
    have hd : d = [] := hd
    subst hd
    have h8 : t.getD 8 undef = .bool true := h8
    have HBW := Aside0.mk (below_step HB2.out hbW)
    go_wp2_with fail
    go_ret
    exact ⟨congrArg Ending.returned h8, HBW.out⟩
theorem FramePuts.walk {H : Type} {enc : TypeId × Value → H} (at_ kind s : Int) (A : Option Addr) (n c : Nat) (w : World) (w0 : (Lit.int .i64 at_).wf = true) (w1 : (Lit.int .u8 kind).wf = true) (w2 : (Lit.int .u64 s).wf = true)
    {d3 : DataW H} {p3 : List MemPlace} (k3 : DataW.Trod enc Try.prog w 0 (fun _ => true) true 23 (.slice A n c) d3 p3) :
    Calls Try.prog 3 #[.int .i64 at_, .int .u8 kind, .int .u64 s, .slice A n c] w fun e w' => e = .returned (.bool true) ∧ Below w.heap.size w w' := by
  obtain ⟨b, rfl, hr, hc, hb⟩ := bytes_come k3
  have hk := fwf_u8 w1
  have hs := fwf_u64 w2
  by_cases h5 : 5000 < b.length
  · have hl5 : (5000 : Int) < (b.length : Int) := by omega
    clear k3 hr hc hb hk hs w0 w1 w2
    go_enter Try.func3, Try.ntmps3
    go_wp2_with fail
    go_ret
    exact ⟨rfl, Below.refl _ _⟩
  obtain ⟨⟨x, e1⟩, hfx⟩ : ∃ p, fputv at_ kind s b = p := ⟨_, rfl⟩
  by_cases h : e1 ≠ 0
  · exact puts_out at_ kind s A c b x e1 w hr hc (by omega) hk hs hfx h
  · obtain ⟨h1, h2⟩ := fputv_ok hfx (by omega)
    exact puts_in at_ kind s A c b w hr hc hb h2 ⟨h1.1, h1.2.1⟩ hk ⟨by omega, hs.2⟩
end Go.Proofs.Ytddajglkefpjdaa.Ext
