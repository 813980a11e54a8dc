/- ShareProrates: the walk. -/
import Derived.Test.YtimdoddaaelfjaaSOpen
import Derived.Test.YtimdoddaaelfjaaSRefP
namespace Go.Proofs.Ytimdoddaaelfjaa.Ext
open Go.RowKit Go.ChangeShapes Go.WideShapes Go.Proofs.YtimdoddaaelfjaaW.PrintWords Go.Proofs.YtimdoddaaelfjaaW.PrintLast Go.Proofs.YtimdoddaaelfjaaW.PrintMore Go.Proofs.YtimdoddaaelfjaaW.Hand
set_option linter.unusedVariables false
theorem same_calls_ {c1 c2 n1 n2 : Nat} (A B : Option Addr) (l : List Int) (w : World) (h1 : l.length = n1) (h2 : l.length = n2) (hr : Kd.C (Kd.int .i64) w A l.length l) (hr2 : Kd.C (Kd.int .i64) w B l.length l) :
    Calls Try.prog 10 #[.slice A n1 c1, .slice B n2 c2] w fun r w' => r = .returned (.bool true) ∧ Below w.heap.size w w' := by
  subst h1
  subst h2
  refine (numbers_calls A B l l rfl rfl w hr hr2 hr.2.1).mono ?_
  rintro e w' ⟨rfl, q, rfl⟩
  exact ⟨by simp, pw_below_drewN (Below.refl _ _) q⟩
set_option maxRecDepth 100000 in
set_option maxHeartbeats 12800000 in
theorem ShareProrates.go {n m c c' : Nat} (A B : Option Addr) (am ds : List Int) (of : Int) (hn : am.length = n) (hm : ds.length = m) (w : World) (hr : Kd.C (Kd.int .i64) w A n am) (hr' : Kd.C (Kd.int .i64) w B m ds) (hof : I64 of) (hda : ∀ x ∈ am, I64 x) (h1 : n ≤ 9223372036854775807) (h2 : m ≤ 9223372036854775807) :
    Calls Try.prog 4 #[.slice A n c, .slice B m c', .int .i64 of] w fun e w' => e = .returned (.bool true) ∧ Below w.heap.size w w' := by
  subst hn
  subst hm
  have HR := Aside0.mk hr
  have HR2 := Aside0.mk hr'
  by_cases c1 : 200 < am.length
  · have z : (200 : Int) < (am.length : Int) := by omega
    clear hr hr' hof hda
    go_enter Try.func4, Try.ntmps4
    go_wp2_with fail
    go_ret
    exact ⟨rfl, Below.refl _ _⟩
  have z : ¬ (200 : Int) < (am.length : Int) := by omega
  by_cases c2 : 200 < ds.length
  · have z2 : (200 : Int) < (ds.length : Int) := by omega
    clear hr hr' hof hda
    go_enter Try.func4, Try.ntmps4
    go_wp2_with fail
    go_ret
    exact ⟨rfl, Below.refl _ _⟩
  have z2 : ¬ (200 : Int) < (ds.length : Int) := by omega
  have k1 := Aside0.mk (prorate_calls (c := c) (c' := c') A B am ds of rfl rfl w hr hr' hof h1 h2)
  have k2 := Aside0.mk (fun w1 hb => refp_calls (c := c) (c' := c') A B am ds of rfl rfl w1 (Kd.C_below HR.out hb) (Kd.C_below HR2.out hb) hof hda h1 h2)
  clear hr hr' hof hda
  go_enter Try.func4, Try.ntmps4
  go_wp2_with (go_at_call 12; (with_reducible refine k1.out.mono ?_); rintro e w1 ⟨A1, d1, e1, l1, rfl, hC1, hS1, hb1, hl1⟩; have HB1 := Aside0.mk hb1; have HC1 := Aside0.mk hC1; have HS1 := Aside0.mk hS1; obtain ⟨n1, hn1⟩ : ∃ n1, l1.length = n1 := ⟨_, rfl⟩; rw [hn1]; have HN1 := Aside0.mk hn1; clear hC1 hS1 hb1 hl1 hn1 k1)
  go_wp2_with (go_at_call 13; (with_reducible refine (k2.out _ HB1.out).mono ?_); rintro e w2 ⟨A2, d2, e2, l2, rfl, hC2, hS2, hb2, hl2⟩; obtain ⟨rfl, he⟩ := hS2.unique HS1.out; obtain rfl : e2 = e1 := (by omega); have HB2 := Aside0.mk (below_step' HB1.out hb2); have ks := Aside0.mk (same_calls_ (c1 := d1) (c2 := d2) A1 A2 l2 w2 HN1.out rfl (Kd.C_below HC1.out hb2) hC2); clear hC2 hS2 hb2 hl2 he k2 HS1 HC1 HN1)
  go_wp2_with (first | (go_at_call 10; (with_reducible refine ks.out.mono ?_); rintro e w3 ⟨rfl, hb⟩; have HB3 := Aside0.mk (below_step' HB2.out hb); clear hb ks) | (go_at_call 11; (with_reducible refine (goes_calls _).mono ?_); rintro e w9 ⟨rfl, hb⟩; have HB9 := Aside0.mk (below_step' HB3.out hb); clear hb))
  go_ret
  exact ⟨rfl, HB9.out⟩
theorem ShareProrates.walk {H : Type} {enc : TypeId × Value → H} (x0 : Option Addr) (len0 cap0 : Nat) (x1 : Option Addr) (len1 cap1 : Nat) (of : Int) (W : World) (w2 : (Lit.int .i64 of).wf = true) {d d' : DataW H} {p p' : List MemPlace}
    (k : DataW.Trod enc Try.prog W 0 (fun _ => true) true 22 (.slice x0 len0 cap0) d p) (k' : DataW.Trod enc Try.prog W 0 (fun _ => true) true 22 (.slice x1 len1 cap1) d' p') :
    Calls Try.prog 4 #[.slice x0 len0 cap0, .slice x1 len1 cap1, .int .i64 of] W fun e w' => e = .returned (.bool true) ∧ Below W.heap.size W w' := by
  obtain ⟨l, rfl, hr, hc, hm, hi⟩ := nums_open k
  obtain ⟨l', rfl, hr', hc', hm', hi'⟩ := nums_open k'
  exact ShareProrates.go x0 x1 l l' of rfl rfl W hr hr' (wf_i64b of w2) hi hm hm'
end Go.Proofs.Ytimdoddaaelfjaa.Ext
