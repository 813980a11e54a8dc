/- ShareSplits: the walk. -/
import Derived.Test.YtimdoddaaelfjaaSOpen
namespace Go.Proofs.Ytimdoddaaelfjaa.Ext
open Go.RowKit Go.ChangeShapes Go.WideShapes Go.Proofs.YtimdoddaaelfjaaW.PrintWords Go.Proofs.YtimdoddaaelfjaaW.PrintLast Go.Proofs.YtimdoddaaelfjaaW.PrintMore Go.Proofs.YtimdoddaaelfjaaW.Hand
set_option linter.unusedVariables false
theorem same_calls {c1 c2 n1 n2 : Nat} (A B : Option Addr) (l : List Int) (w : World) (h1 : l.length = n1) (h2 : l.length = n2) (hr : Kd.C (Kd.int .i64) w A l.length l) (hr2 : Kd.C (Kd.int .i64) w B l.length l) :
    Calls Try.prog 10 #[.slice A n1 c1, .slice B n2 c2] w fun r w' => r = .returned (.bool true) ∧ Below w.heap.size w w' := by
  subst h1
  subst h2
  refine (numbers_calls A B l l rfl rfl w hr hr2 hr.2.1).mono ?_
  rintro e w' ⟨rfl, q, rfl⟩
  exact ⟨by simp, pw_below_drewN (Below.refl _ _) q⟩
theorem RL_empty (W : World) (base : Nat) (ok : Nat → Prop) (hb : base ≤ W.heap.size) (hk : ok W.heap.size) : Kd.R (Kd.int .i64) 2 (W.alloc (.cells #[] 2)) base ok (.slice (some ⟨W.heap.size, 0, none⟩) 0 0) [] := by
  refine ⟨fun k h => ?_, [], ⟨rfl, .inr ⟨W.heap.size, 0, #[], rfl, hb, heap_new _ _, Nat.le_refl _, by simp [maxLen], rfl, rfl⟩⟩, Reps.none _ _⟩
  simp [Value.ownBlock] at h
  subst h; exact hk
set_option maxRecDepth 100000 in
set_option maxHeartbeats 12800000 in
theorem ShareSplits.go {n c : Nat} (t : Int) (A : Option Addr) (ws : List Int) (hn : ws.length = n) (w : World) (hr : Kd.C (Kd.int .i64) w A n ws) (hc : n ≤ c) (ht : I64 t) (hw : ∀ x ∈ ws, I64 x) (hm : n ≤ 9223372036854775807) :
    Calls Try.prog 3 #[.int .i64 t, .slice A n c] w fun e w' => e = .returned (.bool true) ∧ Below w.heap.size w w' := by
  subst hn
  have HR := Aside0.mk hr
  by_cases c1 : 200 < ws.length
  · have z : (200 : Int) < (ws.length : Int) := by omega
    clear hr ht hw
    go_enter Try.func3, Try.ntmps3
    go_wp2_with fail
    go_ret
    exact ⟨rfl, Below.refl _ _⟩
  have z : ¬ (200 : Int) < (ws.length : Int) := by omega
  have HT := Aside0.mk ht
  have HW := Aside0.mk hw
  clear hr ht hw
  go_enter Try.func3, Try.ntmps3
  go_wp2_with (at_builtin; refine Kd.R_append_row (Value.int .i64) (0 : Int) (w0 := w) w.heap.size rfl (.tmp 13) (.tmp 14) 22 2 (.int .i64 0) 8 rfl Try.underlying22 infoL rfl (by decide) (.slice (some ⟨w.heap.size, 0, none⟩) 0 0) [] ws A ws.length c (fun k => w.heap.size ≤ k) rfl rfl (fun k hk => by simp at hk; omega) (RL_empty w _ _ (Nat.le_refl _) (Nat.le_refl _)) (Kd.C_alloc HR.out _) (below_alloc (Below.refl _ _) _) (by simp) (by simp; omega) ?_; intro v1 w1 ho hb hg hat; simp only [List.nil_append] at ho; obtain ⟨A1, d1, ev, hd1, hC1⟩ := Kd.R_reads ho; subst ev; have HC1 := Aside0.mk hC1; have HB1 := Aside0.mk hb; have k1 := Aside0.mk (split_calls (c := d1) t A1 ws rfl w1 hC1 hd1 HT.out HW.out hm); clear ho hb hg hat hC1 hd1)
  go_wp2_with (go_at_call 8; (with_reducible refine k1.out.mono ?_); rintro e w2 ⟨A2, d2, e2, l2, rfl, hC2, hS2, hb2, hl2⟩; have HB2 := Aside0.mk (below_step' HB1.out hb2); have HC2 := Aside0.mk hC2; have HC1' := Aside0.mk (Kd.C_below HC1.out hb2); have HS2 := Aside0.mk hS2; obtain ⟨n2, hn2⟩ : ∃ n2, l2.length = n2 := ⟨_, rfl⟩; rw [hn2]; have HN2 := Aside0.mk hn2; have k2 := Aside0.mk (refsplit_calls (c := c) t A ws rfl w2 (Kd.C_below HR.out HB2.out) hc HT.out HW.out hm l2 e2 hS2); clear hC2 hS2 hb2 hl2 hn2 k1)
  go_wp2_with (go_at_call 9; (with_reducible refine k2.out.mono ?_); rintro e w3 ⟨A3, d3, e3, l3, rfl, hC3, hS3, hb3, hl3⟩; obtain ⟨rfl, he⟩ := hS3.unique HS2.out; obtain rfl : e3 = e2 := (by omega); have HB3 := Aside0.mk (below_step' HB2.out hb3); have HC1'' := Aside0.mk (Kd.C_below HC1'.out hb3); have ks := Aside0.mk (same_calls (c1 := d2) (c2 := d3) A2 A3 l3 w3 HN2.out rfl (Kd.C_below HC2.out hb3) hC3); clear hC3 hS3 hb3 hl3 he k2 HS2 HC2 HN2)
  go_wp2_with (first | (go_at_call 10; (with_reducible refine ks.out.mono ?_); rintro e w4 ⟨rfl, hb⟩; have HB4 := Aside0.mk (below_step' HB3.out hb); have kt := Aside0.mk (same_calls (c1 := d1) (c2 := c) A1 A ws w4 rfl rfl (Kd.C_below HC1''.out hb) (Kd.C_below HR.out HB4.out)); clear hb ks) | (go_at_call 10; (with_reducible refine kt.out.mono ?_); rintro e w5 ⟨rfl, hb⟩; have HB5 := Aside0.mk (below_step' HB4.out hb); clear hb kt) | (go_at_call 11; (with_reducible refine (goes_calls _).mono ?_); rintro e w9 ⟨rfl, hb⟩; have HB9 := Aside0.mk (below_step' HB5.out hb); clear hb))
  go_ret
  exact ⟨rfl, HB9.out⟩
theorem ShareSplits.walk {H : Type} {enc : TypeId × Value → H} (t : Int) (x : Option Addr) (len cap : Nat) (W : World) (w0 : (Lit.int .i64 t).wf = true) {d : DataW H} {p : List MemPlace}
    (k : DataW.Trod enc Try.prog W 0 (fun _ => true) true 22 (.slice x len cap) d p) :
    Calls Try.prog 3 #[.int .i64 t, .slice x len cap] W fun e w' => e = .returned (.bool true) ∧ Below W.heap.size W w' := by
  obtain ⟨l, rfl, hr, hc, hm, hi⟩ := nums_open k
  exact ShareSplits.go t x l rfl W hr hc (wf_i64b t w0) hi hm
end Go.Proofs.Ytimdoddaaelfjaa.Ext
