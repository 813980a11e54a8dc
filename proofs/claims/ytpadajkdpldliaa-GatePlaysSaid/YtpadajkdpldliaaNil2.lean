/- GateNil, walked: of no gateway; what a gateway keeps is its own memory. -/
import Derived.Test.YtpadajkdpldliaaAsks
import Derived.Deep.QuietTactic
import Derived.BigQuiet
namespace Go.Proofs.Ytpadajkdpldliaa.Ext
open Go.RowKit Go.Proofs.YtpadajkdpldliaaW.PrintWords Go.Proofs.YtpadajkdpldliaaW.PrintLast Go.Proofs.YtpadajkdpldliaaW.PrintMore Go.Proofs.YtpadajkdpldliaaW.Hand
set_option linter.unusedVariables false
/-- A gateway that leans on such blocks alone as P tells of. -/
def GAtP (W : World) (g B : Nat) (P : Nat → Prop) (me last : Int) (Q R : List Rq) : Prop :=
  ∃ va vb, Blk W g (.cells #[.int .i64 me, .int .u64 last, va, vb] 68) ∧ Kd.N DQ 71 W B (fun k => P k ∧ k ≠ g ∧ some k ≠ vb.ownBlock) va Q ∧ Kd.N DQ 51 W B (fun k => P k ∧ k ≠ g ∧ some k ≠ va.ownBlock) vb R ∧ B ≤ g
theorem GAtP.weak {W : World} {g B : Nat} {P : Nat → Prop} {me last : Int} {Q R : List Rq} (h : GAtP W g B P me last Q R) : GAt W g B me last Q R := by
  obtain ⟨va, vb, h1, h2, h3, h4⟩ := h
  exact ⟨va, vb, h1, Kd.N_mono h2 (fun _ hk => hk.2), Kd.N_mono h3 (fun _ hk => hk.2), h4⟩
theorem GAt.bound {W : World} {g B : Nat} {me last : Int} {Q R : List Rq} (h : GAt W g B me last Q R) : GAtP W g B (fun k => k < W.heap.size) me last Q R := by
  obtain ⟨va, vb, h1, h2, h3, h4⟩ := h
  exact ⟨va, vb, h1, Kd.N_mono (Kd.N_bound h2) (fun _ hk => ⟨hk.2, hk.1⟩), Kd.N_mono (Kd.N_bound h3) (fun _ hk => ⟨hk.2, hk.1⟩), h4⟩
theorem GAtP.mono {W : World} {g B : Nat} {P P' : Nat → Prop} {me last : Int} {Q R : List Rq} (h : GAtP W g B P me last Q R) (hP : ∀ k, P k → P' k) : GAtP W g B P' me last Q R := by
  obtain ⟨va, vb, h1, h2, h3, h4⟩ := h
  exact ⟨va, vb, h1, Kd.N_mono h2 (fun _ hk => ⟨hP _ hk.1, hk.2⟩), Kd.N_mono h3 (fun _ hk => ⟨hP _ hk.1, hk.2⟩), h4⟩
theorem GAtP.below {W W' : World} {g B : Nat} {P : Nat → Prop} {me last : Int} {Q R : List Rq} (h : GAtP W g B P me last Q R) (hb : Below W.heap.size W W') : GAtP W' g B P me last Q R := by
  obtain ⟨va, vb, h1, h2, h3, h4⟩ := h
  exact ⟨va, vb, h1.below hb, Kd.N_below h2 hb, Kd.N_below h3 hb, h4⟩
theorem GAtP.set {W : World} {g B : Nat} {P : Nat → Prop} {me last : Int} {Q R : List Rq} (h : GAtP W g B P me last Q R) {p : Addr} (hg : g ≠ p.block) (hP : ∀ k, P k → k ≠ p.block) (v : Value) : GAt (W.setCell p v) g B me last Q R := by
  obtain ⟨va, vb, h1, h2, h3, h4⟩ := h
  exact ⟨va, vb, ⟨(Below.heap_setCell W p v g hg).trans h1.out⟩, Kd.N_mono (Kd.N_far h2 (fun k hk => hP k hk.1) v) (fun _ hk => hk.2), Kd.N_mono (Kd.N_far h3 (fun k hk => hP k hk.1) v) (fun _ hk => hk.2), h4⟩
/-- The other queue, behind a turn of this one. -/
theorem N_followP {e : TypeId} {P : Nat → Prop} {W W' : World} {g B : Nat} {v u u' : Value} {R : List (Int × List Int)} (h : Kd.N DQ e W B (fun k => P k ∧ k ≠ g ∧ some k ≠ u.ownBlock) v R) (hk : KeepBut W W' g u.ownBlock)
    (hat : u'.ownBlock = u.ownBlock ∨ u'.ownBlock = none ∨ ∃ b, u'.ownBlock = some b ∧ W.heap.size ≤ b) : Kd.N DQ e W' B (fun k => P k ∧ k ≠ g ∧ some k ≠ u'.ownBlock) v R := by
  refine Kd.N_mono (Kd.N_step (Kd.N_bound h) (fun k hk' hlt => hk.2 k hlt hk'.1.2.1 hk'.1.2.2)) (fun k hk' => ⟨hk'.1.1, hk'.1.2.1, fun e1 => ?_⟩)
  rcases hat with h1 | h1 | ⟨b, h1, h2⟩
  · exact hk'.1.2.2 (e1.trans h1)
  · rw [h1] at e1; cases e1
  · rw [h1] at e1
    injection e1 with e1
    have := hk'.2
    omega
set_option maxRecDepth 100000 in
set_option maxHeartbeats 3200000 in
theorem Ask_okP (g B : Nat) (P : Nat → Prop) (me last : Int) (Q R : List (Int × List Int)) (A : Option Addr) (c : Nat) (b : List Int) (w : World) (h : GAtP w g B P me last Q R) (hP : ∀ k, w.heap.size ≤ k → P k) (okb : Nat → Prop) (hr : Kd.F (Kd.int .u8) w okb A b.length b) (hokb : ∀ k, okb k → k ≠ g) (hq : Q.length < 32) (hn : b.length ≤ 1000) (h0 : 0 ≤ last) (h1 : last + 1 < 18446744073709551616) :
    Calls Try.prog 12 #[.pointer (some ⟨g, 0, none⟩), .slice A b.length c] w fun e w' => e = .returned (.tuple #[.int .u64 (last + 1), .int .i64 0]) ∧ GAtP w' g B P me (last + 1) (Q ++ [(last + 1, b)]) R ∧ KT g w w' ∧ Below B w w' := by
  have k := Aside0.mk (Queue_calls g B me last Q R w h.weak)
  have hq2 : ¬ (32 : Int) ≤ (Q.length : Int) := by omega
  have hn2 : ¬ (1000 : Int) < (b.length : Int) := by omega
  have hw : IntKind.u64.wrap (last + 1) = last + 1 := by rw [IntKind.wrap_u64]; omega
  obtain ⟨va, vb, hb, hQ, hR, hBg⟩ := h
  have c1 := hb.cell 1
  have f1 := hb.free 1
  simp at c1
  have hb1 := Aside0.mk (show Blk (w.setCell ⟨g, 1, none⟩ (.int .u64 (last + 1))) g (.cells #[.int .i64 me, .int .u64 (last + 1), va, vb] 68) from hb.put 1 (.int .u64 (last + 1)) rfl)
  have HQ := Aside0.mk (Kd.N_far hQ (p := ⟨g, 1, none⟩) (fun k hk => hk.2.1) (.int .u64 (last + 1)))
  have HR := Aside0.mk (Kd.N_far hR (p := ⟨g, 1, none⟩) (fun k hk => hk.2.1) (.int .u64 (last + 1)))
  have HC : Aside0 (Kd.C (Kd.int .u8) (w.setCell ⟨g, 1, none⟩ (.int .u64 (last + 1))) A b.length b) := ⟨Kd.F_now (Kd.F_far hr (p := ⟨g, 1, none⟩) hokb _)⟩
  have HK := Aside0.mk (KeepBut.set_ (KeepBut.refl w g none) 1 (.int .u64 (last + 1)))
  have HB := Aside0.mk ((Below.refl B w).setCell (p := ⟨g, 1, none⟩) hBg (.int .u64 (last + 1)))
  have hlt := Aside0.mk hb.lt
  have hws : (w.setCell ⟨g, 1, none⟩ (.int .u64 (last + 1))).heap.size = w.heap.size := by simp
  have HFar : Aside0 (∀ k, (w.setCell ⟨g, 1, none⟩ (.int .u64 (last + 1))).heap.size ≤ k → (P k ∧ k ≠ g ∧ some k ≠ vb.ownBlock) ∧ some k ≠ va.ownBlock) := ⟨fun k hk => by
    rw [hws] at hk
    exact ⟨⟨hP k hk, by have := hlt.out; omega, own_old (Kd.N_typed hR) k hk⟩, own_old (Kd.N_typed hQ) k hk⟩⟩
  have HQT := Aside0.mk (Kd.N_typed hQ)
  clear hb hQ hR hr h0 h1 hokb
  have hsz := Aside0.mk hws
  clear hws hP
  go_enter Try.func12, Try.ntmps12
  go_wp2_with fail
  refine k.out.mono ?_
  rintro e w1 ⟨rfl, rfl⟩
  clear k
  go_wp2_with fail
  obtain ⟨W, hW⟩ : ∃ W, w.setCell ⟨g, 1, none⟩ (.int .u64 (last + 1)) = W := ⟨_, rfl⟩
  rw [hW] at hb1 HQ HR HC HK HB HFar hsz ⊢
  clear c1 f1
  have hA := Aside0.mk hW
  clear hW
  have c1 := hb1.out.cell 1
  simp at c1
  go_region_with (first
    | (go_at_call 25; (with_reducible refine (Clone_calls A c b _ ?_ (by omega)).mono ?_); (exact Kd.C_below HC.out (below_drew (Below.refl _ _))); rintro e w2 ⟨v2, rfl, hV, hb⟩; (obtain ⟨A2, k2, ev⟩ := Kd.R_slice hV); subst ev; (have HV := Aside0.mk hV); (have HB2 := Aside0.mk (below_step (below_drew (Below.refl W.heap.size W)) hb)); (have hb2 := Aside0.mk (hb1.out.below HB2.out)); (have c2 := hb2.out.cell 1); simp at c2; clear hV hb)
    | (go_at_call 24; go_loud (have kq := qput_calls g B (fun k => P k ∧ k ≠ g ∧ some k ≠ vb.ownBlock) (fun k => W.heap.size ≤ k) _ _ va _ Q (last + 1) A2 k2 b _ hb2.out (Kd.N_below HQ.out HB2.out) (fun k hk => hk.2.1) (fun k hk => (HFar.out k (Nat.le_trans HB2.out.size hk)).1) (Kd.F_mono (Kd.R_F HV.out) (fun k hk => hk)) (Kd.R_reads' HV.out).2.1 (fun k hk => HFar.out k hk) (by omega) (by omega)); (with_reducible refine kq.mono ?_); clear kq; rintro e w3 ⟨rfl, va', hb3, hq3, hat, hk3, hbl⟩; (have hb3 := Aside0.mk hb3); (have HQ3 := Aside0.mk hq3); (have HAT := Aside0.mk hat); (have HK3 := Aside0.mk hk3); (have HB3 := Aside0.mk hbl); (have c3 := hb3.out.cell 1); simp at c3; clear hq3 hat hk3 hbl))
  all_goals
    go_wp2_with fail
    go_ret2
    refine ⟨rfl, ⟨va', vb, hb3.out, HQ3.out, N_followP (Kd.N_below HR.out HB2.out) HK3.out (HAT.out.imp id .inr), hBg⟩, (KT.of_keep HK.out (fun k h => by cases h)).trans ((KT.of_below HB2.out).trans (KT.of_keep HK3.out (fun k h => ?_))), (below_then HB.out (by have h1 := hsz.out; have h2 := hlt.out; omega) HB2.out).trans HB3.out⟩
    obtain ⟨cs, h2⟩ := Kd.N_typed (Kd.N_below HQ.out HB2.out) k h
    exact ⟨cs, .inl h2⟩
end Go.Proofs.Ytpadajkdpldliaa.Ext
