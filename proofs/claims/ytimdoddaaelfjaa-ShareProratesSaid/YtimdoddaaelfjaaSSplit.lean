/- The contract of share.Split: the walk. -/
import Derived.Test.YtimdoddaaelfjaaSPure
namespace Go.Proofs.Ytimdoddaaelfjaa.Ext
open Go.RowKit Go.Proofs.YtimdoddaaelfjaaW.PrintWords Go.Proofs.YtimdoddaaelfjaaW.PrintLast Go.Proofs.YtimdoddaaelfjaaW.PrintMore Go.Proofs.YtimdoddaaelfjaaW.Hand
set_option linter.unusedVariables false
theorem beyond_one {t : Int} (h : I64 t) : beyondB 9223372036854775807 [t] = decide (t < 0) := by
  unfold I64 at h
  unfold beyondB outOf
  have : decide (9223372036854775807 < t) = false := decide_eq_false (by omega)
  simp [this]
theorem beyond_all {ws : List Int} (h : ∀ w ∈ ws, I64 w) : beyondB 9223372036854775807 ws = decide (∃ w ∈ ws, w < 0) := by
  unfold beyondB outOf
  rw [Bool.eq_iff_iff, List.any_eq_true, decide_eq_true_iff]
  constructor
  · rintro ⟨w, hw, e⟩
    have hi := h w hw
    unfold I64 at hi
    refine ⟨w, hw, ?_⟩
    simp at e
    omega
  · rintro ⟨w, hw, e⟩
    exact ⟨w, hw, by simp [e]⟩
theorem I64.sum0 (l : List Int) (h : ∀ w ∈ l, I64 w) : True := trivial
/-- What Split leaves. -/
def SplitPost (t : Int) (ws : List Int) (w : World) (e : Ending) (w' : World) : Prop :=
  ∃ (A : Option Addr) (c er : Nat) (l : List Int), e = .returned (.tuple #[.slice A l.length c, .int .i64 er]) ∧ Kd.C (Kd.int .i64) w' A l.length l ∧ SplitIs t ws l er ∧ Below w.heap.size w w' ∧ l.length ≤ 100
theorem SplitPost.err {t : Int} {ws : List Int} {w w' : World} (er : Nat) (h : SplitIs t ws [] er) (hb : Below w.heap.size w w') : SplitPost t ws w (.returned (.tuple #[.slice none 0 0, .int .i64 er])) w' :=
  ⟨none, 0, er, [], rfl, Kd.C_nil _ _, h, hb, by simp⟩
theorem below_step' {w u v : World} (h : Below w.heap.size w u) (k : Below u.heap.size u v) : Below w.heap.size w v := h.trans ⟨k.os, k.tape, k.output, k.size, fun i hi => k.block i (Nat.lt_of_lt_of_le hi h.size)⟩
set_option maxRecDepth 100000 in
set_option maxHeartbeats 6400000 in
theorem split_err {n c : Nat} (t : Int) (A : Option Addr) (ws : List Int) (hn : ws.length = n) (w : World) (hr : Kd.C (Kd.int .i64) w A n ws) (hc : n ≤ c) (ht : I64 t) (hw : ∀ x ∈ ws, I64 x) (hm : n ≤ 9223372036854775807)
    (he : ¬ (ws.length ≤ 100 ∧ 0 ≤ t ∧ (∀ x ∈ ws, 0 ≤ x) ∧ I64 ws.sum ∧ 0 < ws.sum)) :
    Calls Try.prog 8 #[.int .i64 t, .slice A n c] w fun e w' => SplitPost t ws w e w' := by
  subst hn
  have HR := Aside0.mk hr
  have HW := Aside0.mk hw
  have HT := Aside0.mk ht
  have b1 := beyond_one ht
  have b2 := beyond_all hw
  clear hr hw ht
  by_cases c1 : 100 < ws.length
  · have z : (100 : Int) < (ws.length : Int) := by omega
    have HS := Aside0.mk (show SplitIs t ws [] 1 by unfold SplitIs; rw [if_pos (.inl c1)]; exact ⟨rfl, rfl⟩)
    clear he b1 b2
    go_enter Try.func8, Try.ntmps8
    go_wp2_with fail
    go_ret2
    exact SplitPost.err 1 HS.out (Below.refl _ _)
  have z : ¬ (100 : Int) < (ws.length : Int) := by omega
  have k1 := Aside0.mk (beyond_calls (c := 1) 9223372036854775807 (some ⟨w.heap.size, 0, none⟩) [t] rfl (w.alloc (.cells #[.int .i64 t] 2)) (C_block (Blk.new_ (W := w)).out rfl (by simp)) (by simp))
  rw [b1] at k1
  by_cases c2 : t < 0
  · have HS := Aside0.mk (show SplitIs t ws [] 1 by unfold SplitIs; rw [if_pos (.inr (.inl c2))]; exact ⟨rfl, rfl⟩)
    rw [decide_eq_true c2] at k1
    clear he b1 b2
    go_enter Try.func8, Try.ntmps8
    go_wp2_with (go_at_call 16; refine k1.out.mono ?_; rintro e w1 ⟨rfl, hb⟩; have HB := Aside0.mk (below_step' (below_alloc (Below.refl _ _) _) hb); clear hb)
    go_ret2
    exact SplitPost.err 1 HS.out HB.out
  rw [decide_eq_false c2] at k1
  have k2 := Aside0.mk (fun w1 hb => beyond_calls (c := c) 9223372036854775807 A ws rfl w1 (Kd.C_below HR.out hb) hm)
  rw [b2] at k2
  by_cases c3 : ∃ x ∈ ws, x < 0
  · have HS := Aside0.mk (show SplitIs t ws [] 1 by unfold SplitIs; rw [if_pos (.inr (.inr c3))]; exact ⟨rfl, rfl⟩)
    rw [decide_eq_true c3] at k2
    clear he b1 b2 c3
    go_enter Try.func8, Try.ntmps8
    go_wp2_with (first | (go_at_call 16; refine k1.out.mono ?_; rintro e w1 ⟨rfl, hb⟩; have HB := Aside0.mk (below_step' (below_alloc (Below.refl _ _) _) hb); clear hb k1) | (go_at_call 16; refine (k2.out _ HB.out).mono ?_; rintro e w2 ⟨rfl, hb⟩; have HB2 := Aside0.mk (below_step' HB.out hb); clear hb k2))
    go_ret2
    exact SplitPost.err 1 HS.out HB2.out
  rw [decide_eq_false c3] at k2
  have hnn := nn_of c3
  have k3 : Aside0 (∀ r1 r2 w1, Below w.heap.size w w1 → small ws.sum = (r1, r2) → Calls Try.prog 14 #[.slice A ws.length c] w1 fun e w' => e = .returned (.tuple #[.int .i64 r1, .int .i64 r2]) ∧ Drawn0 w1 w') :=
    ⟨fun r1 r2 w1 hb hs => money_Sum.calls A c ws r1 r2 w1 (Kd.C_below HR.out hb) hc (by unfold money_Sum.f; rw [if_pos ⟨HW.out, hm⟩, hs])⟩
  have hne : ¬ (100 < ws.length ∨ t < 0 ∨ ∃ x ∈ ws, x < 0) := by rintro (h | h | h); exact c1 h; exact c2 h; exact c3 h
  by_cases c4 : I64 ws.sum
  · have h0 : ws.sum = 0 := by
      have := sum_take_le ws hnn 0
      simp at this
      by_cases x : ws.sum = 0
      · exact x
      · exact (he ⟨by omega, by omega, hnn, c4, by omega⟩).elim
    have HS := Aside0.mk (show SplitIs t ws [] 1 by unfold SplitIs; rw [if_neg hne, if_neg (fun h => h c4), if_pos h0]; exact ⟨rfl, rfl⟩)
    have k4 := Aside0.mk (fun w1 hb => k3.out 0 0 w1 hb (by unfold small; rw [if_pos c4, h0]))
    clear he b1 b2 c3 k3 hne hnn c4 h0
    go_enter Try.func8, Try.ntmps8
    go_wp2_with (first | (go_at_call 16; refine k1.out.mono ?_; rintro e w1 ⟨rfl, hb⟩; have HB := Aside0.mk (below_step' (below_alloc (Below.refl _ _) _) hb); clear hb k1) | (go_at_call 16; refine (k2.out _ HB.out).mono ?_; rintro e w2 ⟨rfl, hb⟩; have HB2 := Aside0.mk (below_step' HB.out hb); clear hb k2) | (go_at_call 14; refine (k4.out _ HB2.out).mono ?_; rintro e w3 ⟨rfl, hb⟩; have HB3 := Aside0.mk (below_step' HB2.out hb.below); clear hb k4))
    go_ret2
    exact SplitPost.err 1 HS.out HB3.out
  · have HS := Aside0.mk (show SplitIs t ws [] 30 by unfold SplitIs; rw [if_neg hne, if_pos c4]; exact ⟨rfl, rfl⟩)
    have k4 := Aside0.mk (fun w1 hb => k3.out 0 30 w1 hb (by unfold small; rw [if_neg c4]))
    clear he b1 b2 c3 k3 hne hnn c4
    go_enter Try.func8, Try.ntmps8
    go_wp2_with (first | (go_at_call 16; refine k1.out.mono ?_; rintro e w1 ⟨rfl, hb⟩; have HB := Aside0.mk (below_step' (below_alloc (Below.refl _ _) _) hb); clear hb k1) | (go_at_call 16; refine (k2.out _ HB.out).mono ?_; rintro e w2 ⟨rfl, hb⟩; have HB2 := Aside0.mk (below_step' HB.out hb); clear hb k2) | (go_at_call 14; refine (k4.out _ HB2.out).mono ?_; rintro e w3 ⟨rfl, hb⟩; have HB3 := Aside0.mk (below_step' HB2.out hb.below); clear hb k4))
    go_ret2
    exact SplitPost.err 30 HS.out HB3.out
end Go.Proofs.Ytimdoddaaelfjaa.Ext
