/- gate.Hear, proved by walking its code. -/
import Derived.Test.YtpadajkdpldliaaGate3
namespace Go.Proofs.Ytpadajkdpldliaa.Ext
open Go.RowKit Go.Proofs.YtpadajkdpldliaaW.PrintWords Go.Proofs.YtpadajkdpldliaaW.PrintLast Go.Proofs.YtpadajkdpldliaaW.PrintMore Go.Proofs.YtpadajkdpldliaaW.Hand
set_option linter.unusedVariables false
abbrev Rq := Int × List Int
/-- What a heard letter does. -/
def hear (o : Option Rq) (Q R : List Rq) : List Rq × List Rq :=
  match o, Q with
  | some p, q :: Q' => if q.1 = p.1 then (Q', R ++ [p]) else (Q, R)
  | _, _ => (Q, R)
theorem hear_none (Q R : List Rq) : hear none Q R = (Q, R) := rfl
theorem hear_empty (o : Option Rq) (R : List Rq) : hear o [] R = ([], R) := by cases o <;> rfl
theorem hear_other (p q : Rq) (Q R : List Rq) (h : q.1 ≠ p.1) : hear (some p) (q :: Q) R = (q :: Q, R) := by simp [hear, h]
theorem hear_take (p q : Rq) (Q R : List Rq) (h : q.1 = p.1) : hear (some p) (q :: Q) R = (Q, R ++ [p]) := by simp [hear, h]
set_option maxRecDepth 100000 in
set_option maxHeartbeats 3200000 in
theorem Hear_none (g B : Nat) (me last : Int) (Q R : List Rq) (A : Option Addr) (c : Nat) (b : List Int) (w : World) (h : GAt w g B me last Q R) (hr : Kd.C (Kd.int .u8) w A b.length b) (hby : ∀ x ∈ b, IsByte x) (hm : b.length ≤ 140737488350000) (hg : gGet b = none) :
    Calls Try.prog 16 #[.pointer (some ⟨g, 0, none⟩), .slice A b.length c] w fun e w' => e = .returned (.tuple #[]) ∧ Below w.heap.size w w' := by
  have kg := Aside0.mk (gGet_calls A c b w hr hby hm)
  rw [hg] at kg
  obtain ⟨va, vb, hb, hQ, hR, hBg⟩ := h
  have Hb := Aside0.mk hb
  have HQ := Aside0.mk hQ
  clear hb hQ hR hBg hr hby hg
  go_enter Try.func16, Try.ntmps16
  go_wp2_with fail
  refine kg.out.mono ?_
  rintro e w1 ⟨hbl, he⟩
  simp only [GetIs] at he
  subst he
  have k1 := Aside0.mk (first_calls g B _ _ _ _ _ _ w1 (Hb.out.below hbl) (Kd.N_below HQ.out hbl))
  have HB := Aside0.mk hbl
  clear hbl
  go_wp2_with fail
  refine k1.out.mono ?_
  rintro e w2 ⟨he, hbl⟩
  cases Q with
  | nil =>
    simp only [FirstIs] at he
    subst he
    have HB2 := Aside0.mk (below_alloc (below_step HB.out hbl) (.cells #[.int .u64 0, .slice none 0 0] 71))
    clear hbl
    go_wp2_with fail
    go_end0
    exact ⟨rfl, HB2.out⟩
  | cons q Q =>
    obtain ⟨A1, c1, rfl, hc1, hF⟩ := he
    have HB2 := Aside0.mk (below_alloc (below_step HB.out hbl) (.cells #[.int .u64 q.1, .slice A1 q.2.length c1] 71))
    clear hbl hF hc1
    go_wp2_with fail
    go_end0
    exact ⟨rfl, HB2.out⟩
set_option maxRecDepth 100000 in
set_option maxHeartbeats 3200000 in
theorem Hear_empty (g B : Nat) (me last : Int) (R : List Rq) (A : Option Addr) (c : Nat) (b : List Int) (w : World) (p : Rq) (h : GAt w g B me last [] R) (hr : Kd.C (Kd.int .u8) w A b.length b) (hby : ∀ x ∈ b, IsByte x) (hm : b.length ≤ 140737488350000) (hg : gGet b = some p) :
    Calls Try.prog 16 #[.pointer (some ⟨g, 0, none⟩), .slice A b.length c] w fun e w' => e = .returned (.tuple #[]) ∧ Below w.heap.size w w' := by
  have kg := Aside0.mk (gGet_calls A c b w hr hby hm)
  rw [hg] at kg
  obtain ⟨va, vb, hb, hQ, hR, hBg⟩ := h
  have Hb := Aside0.mk hb
  have HQ := Aside0.mk hQ
  clear hb hQ hR hBg hr hby hg
  go_enter Try.func16, Try.ntmps16
  go_wp2_with fail
  refine kg.out.mono ?_
  rintro e w1 ⟨hbl, v, rfl, hv⟩
  have k1 := Aside0.mk (first_calls g B _ _ _ _ _ _ w1 (Hb.out.below hbl) (Kd.N_below HQ.out hbl))
  have HB := Aside0.mk hbl
  clear hbl hv
  go_wp2_with fail
  refine k1.out.mono ?_
  rintro e w2 ⟨he, hbl⟩
  simp only [FirstIs] at he
  subst he
  have HB2 := Aside0.mk (below_alloc (below_step HB.out hbl) (.cells #[.int .u64 0, .slice none 0 0] 71))
  clear hbl
  go_wp2_with fail
  go_end0
  exact ⟨rfl, HB2.out⟩
set_option maxRecDepth 100000 in
set_option maxHeartbeats 3200000 in
theorem Hear_other (g B : Nat) (me last : Int) (Q R : List Rq) (A : Option Addr) (c : Nat) (b : List Int) (w : World) (p q : Rq) (h : GAt w g B me last (q :: Q) R) (hr : Kd.C (Kd.int .u8) w A b.length b) (hby : ∀ x ∈ b, IsByte x) (hm : b.length ≤ 140737488350000) (hg : gGet b = some p) (hne : q.1 ≠ p.1) :
    Calls Try.prog 16 #[.pointer (some ⟨g, 0, none⟩), .slice A b.length c] w fun e w' => e = .returned (.tuple #[]) ∧ Below w.heap.size w w' := by
  have kg := Aside0.mk (gGet_calls A c b w hr hby hm)
  rw [hg] at kg
  obtain ⟨va, vb, hb, hQ, hR, hBg⟩ := h
  have Hb := Aside0.mk hb
  have HQ := Aside0.mk hQ
  clear hb hQ hR hBg hr hby hg
  go_enter Try.func16, Try.ntmps16
  go_wp2_with fail
  refine kg.out.mono ?_
  rintro e w1 ⟨hbl, v, rfl, hv⟩
  have k1 := Aside0.mk (first_calls g B _ _ _ _ _ _ w1 (Hb.out.below hbl) (Kd.N_below HQ.out hbl))
  have HB := Aside0.mk hbl
  clear hbl hv
  go_wp2_with fail
  refine k1.out.mono ?_
  rintro e w2 ⟨⟨A1, c1, rfl, hc1, hF⟩, hbl⟩
  have HB2 := Aside0.mk (below_alloc (below_step HB.out hbl) (.cells #[.int .u64 q.1, .slice A1 q.2.length c1] 71))
  clear hbl hF hc1
  go_wp2_with fail
  go_end0
  exact ⟨rfl, HB2.out⟩
set_option maxRecDepth 100000 in
set_option maxHeartbeats 3200000 in
theorem Hear_take (g B : Nat) (me last : Int) (Q R : List Rq) (A : Option Addr) (c : Nat) (b : List Int) (w : World) (p q : Rq) (h : GAt w g B me last (q :: Q) R) (hr : Kd.C (Kd.int .u8) w A b.length b) (hby : ∀ x ∈ b, IsByte x) (hm : b.length ≤ 140737488350000) (hg : gGet b = some p) (hne : q.1 = p.1) (hlQ : Q.length ≤ 1000000) (hlR : R.length ≤ 1000000) :
    Calls Try.prog 16 #[.pointer (some ⟨g, 0, none⟩), .slice A b.length c] w fun e w' => e = .returned (.tuple #[]) ∧ GAt w' g B me last Q (R ++ [p]) ∧ KT g w w' ∧ Below B w w' := by
  have kg := Aside0.mk (gGet_calls A c b w hr hby hm)
  rw [hg] at kg
  obtain ⟨va, vb, hb, hQ, hR, hBg⟩ := h
  have Hb := Aside0.mk hb
  have HQ := Aside0.mk hQ
  have HR := Aside0.mk hR
  have hlt := Aside0.mk hb.lt
  clear hb hQ hR hr hby hg
  go_enter Try.func16, Try.ntmps16
  go_wp2_with fail
  refine kg.out.mono ?_
  rintro e w1 ⟨hbl, v, rfl, hv⟩
  have k1 := Aside0.mk (first_calls g B _ _ _ _ _ _ w1 (Hb.out.below hbl) (Kd.N_below HQ.out hbl))
  have HB := Aside0.mk hbl
  obtain ⟨A2, k2, ev⟩ := Kd.R_slice hv
  subst ev
  have HV := Aside0.mk hv
  clear hbl hv
  go_wp2_with fail
  refine k1.out.mono ?_
  rintro e w2 ⟨⟨A1, c1, rfl, hc1, hF⟩, hbl⟩
  have HBa := Aside0.mk (below_alloc hbl (.cells #[.int .u64 p.1, .slice A1 q.2.length c1] 71))
  clear hbl hF hc1
  go_wp2_with fail
  have hbW := Aside0.mk ((Hb.out.below HB.out).below HBa.out)
  have HQW := Aside0.mk (Kd.N_below (Kd.N_below HQ.out HB.out) HBa.out)
  have HRW := Aside0.mk (Kd.N_below (Kd.N_below HR.out HB.out) HBa.out)
  have hsz := Aside0.mk (Nat.le_trans HB.out.size HBa.out.size)
  have HVF := Aside0.mk (Kd.F_below (Kd.F_mono (ok' := fun k => w.heap.size ≤ k ∧ k < w1.heap.size) (Kd.R_F (Kd.R_bound HV.out)) (fun k hk => ⟨hk.2.1, hk.2.2.1⟩)) HBa.out)
  have hc2 := Aside0.mk (Kd.R_reads' HV.out).2.1
  have hwW := Aside0.mk HBa.out.size
  generalize w2.alloc (.cells #[.int .u64 p.1, .slice A1 q.2.length c1] 71) = W at hbW HQW HRW hsz HVF hwW HBa ⊢
  have hv0 := Aside0.mk (own_old (Kd.N_typed HR.out))
  refine (drop_calls g B (fun k => k ≠ g ∧ some k ≠ vb.ownBlock) _ _ va vb q Q W hbW.out HQW.out (fun k hk => hk.1) (fun k hk => ⟨by have := hlt.out; have := hsz.out; omega, hv0.out k (Nat.le_trans hsz.out hk)⟩) hBg hlQ).mono ?_
  rintro e w3 ⟨rfl, va2, hb3, hQ3, hat3, hk3, hbl3⟩
  have Hb3 := Aside0.mk hb3
  have HQ3 := Aside0.mk hQ3
  have HAT3 := Aside0.mk hat3
  have HK3 := Aside0.mk hk3
  have HB3 := Aside0.mk hbl3
  have HR3 := Aside0.mk (N_follow HRW.out (⟨hk3.1, fun i hi h1 _ => hk3.2 i hi h1 (by simp)⟩ : KeepBut W w3 g va.ownBlock) (.inr hat3))
  have HVF3 := Aside0.mk (Kd.F_step HVF.out (W1 := w3) (fun k hk hlt' => hk3.2 k hlt' (by have := hlt.out; omega) (by simp)))
  clear hb3 hQ3 hat3 hk3 hbl3
  go_wp2_with fail
  refine (aput_calls g B (fun k => k ≠ g ∧ some k ≠ va2.ownBlock) (fun k => w.heap.size ≤ k ∧ k < w1.heap.size) _ _ _ vb R p.1 A2 k2 p.2 w3 Hb3.out HR3.out (fun k hk => hk.1) (fun k hk => ⟨by have := hlt.out; have := hsz.out; have := HK3.out.1; omega, own_old (Kd.N_typed HQ3.out) k hk⟩) HVF3.out hc2.out (fun k hk => ⟨⟨by have := hlt.out; omega, fun e1 => ?_⟩, hv0.out k hk.1⟩) hBg hlR).mono ?_
  · rcases HAT3.out with h1 | ⟨b, h1, h2⟩
    · rw [h1] at e1; cases e1
    · rw [h1] at e1
      injection e1 with e1
      have := hwW.out
      omega
  rintro e w4 ⟨rfl, vb2, hb4, hR4, hat4, hk4, hbl4⟩
  have Hb4 := Aside0.mk hb4
  have HR4 := Aside0.mk hR4
  have HAT4 := Aside0.mk hat4
  have HK4 := Aside0.mk hk4
  have HB4 := Aside0.mk hbl4
  clear hb4 hR4 hat4 hk4 hbl4
  go_wp2_with fail
  go_end0
  have hBw : B ≤ w.heap.size := by have := hlt.out; omega
  refine ⟨rfl, ⟨va2, vb2, Hb4.out, N_follow HQ3.out HK4.out (HAT4.out.imp id .inr), HR4.out, hBg⟩, (KT.of_below HB.out).trans ((KT.of_below HBa.out).trans ((KT.of_keep HK3.out (fun k h => by cases h)).trans (KT.of_keep HK4.out (fun k h => ?_)))), ?_⟩
  · obtain ⟨cs, h2⟩ := Kd.N_typed HR3.out k h
    exact ⟨cs, .inr h2⟩
  · exact ((below_weak HB.out hBw).trans (below_weak HBa.out (Nat.le_trans hBw HB.out.size))).trans (HB3.out.trans HB4.out)
theorem KT_below {g : Nat} {a b : World} (h : Below a.heap.size a b) : KT g a b := KT.of_below h
theorem Hear_calls (g B : Nat) (me last : Int) (Q R : List Rq) (A : Option Addr) (c : Nat) (b : List Int) (w : World) (h : GAt w g B me last Q R) (hr : Kd.C (Kd.int .u8) w A b.length b) (hby : ∀ x ∈ b, IsByte x) (hm : b.length ≤ 140737488350000) (hlQ : Q.length ≤ 1000000) (hlR : R.length ≤ 1000000) :
    Calls Try.prog 16 #[.pointer (some ⟨g, 0, none⟩), .slice A b.length c] w fun e w' => e = .returned (.tuple #[]) ∧ GAt w' g B me last (hear (gGet b) Q R).1 (hear (gGet b) Q R).2 ∧ KT g w w' ∧ Below B w w' := by
  have hB : B ≤ w.heap.size := by have h1 := h.lt; have h2 := h.le; omega
  cases hg : gGet b with
  | none =>
    refine (Hear_none g B me last Q R A c b w h hr hby hm hg).mono ?_
    rintro e w' ⟨rfl, hb⟩
    rw [hear_none]
    exact ⟨rfl, h.below hb, KT.of_below hb, below_weak hb hB⟩
  | some p =>
    cases Q with
    | nil =>
      refine (Hear_empty g B me last R A c b w p h hr hby hm hg).mono ?_
      rintro e w' ⟨rfl, hb⟩
      rw [hear_empty]
      exact ⟨rfl, h.below hb, KT.of_below hb, below_weak hb hB⟩
    | cons q Q =>
      by_cases hne : q.1 = p.1
      · refine (Hear_take g B me last Q R A c b w p q h hr hby hm hg hne (by simp at hlQ; omega) hlR).mono ?_
        rintro e w' ⟨rfl, hb⟩
        rw [hear_take p q Q R hne]
        exact ⟨rfl, hb⟩
      · refine (Hear_other g B me last Q R A c b w p q h hr hby hm hg hne).mono ?_
        rintro e w' ⟨rfl, hb⟩
        rw [hear_other p q Q R hne]
        exact ⟨rfl, h.below hb, KT.of_below hb, below_weak hb hB⟩
end Go.Proofs.Ytpadajkdpldliaa.Ext
