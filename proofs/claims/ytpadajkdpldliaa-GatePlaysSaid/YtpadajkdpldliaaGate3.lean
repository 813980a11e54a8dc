/- gate.Tick, Hear, Answers, proved by walking their code. -/
import Derived.Test.YtpadajkdpldliaaGate2
namespace Go.Proofs.Ytpadajkdpldliaa.Ext
open Go.RowKit Go.Proofs.YtpadajkdpldliaaW.PrintWords Go.Proofs.YtpadajkdpldliaaW.PrintLast Go.Proofs.YtpadajkdpldliaaW.PrintMore Go.Proofs.YtpadajkdpldliaaW.Hand
set_option linter.unusedVariables false
/-- What 'Tick' answers. -/
def TickIs (me : Int) (w w' : World) (e : Ending) : List (Int × List Int) → Prop
  | [] => e = .returned (.slice none 0 0)
  | p :: _ => ∃ h A c, e = .returned (.slice (some ⟨h, 0, none⟩) 1 1) ∧ Blk w' h (.cells #[.int .i64 me, .int .i64 0, .slice A (lett p.1 p.2).length c] 44) ∧ w.heap.size ≤ h ∧ Kd.R (Kd.int .u8) 5 w' w.heap.size (fun k => k ≠ h) (.slice A (lett p.1 p.2).length c) (lett p.1 p.2)
def Req (p : Int × List Int) : Prop := 0 ≤ p.1 ∧ p.1 < 18446744073709551616 ∧ p.2.length ≤ 1000000
set_option maxRecDepth 100000 in
set_option maxHeartbeats 3200000 in
theorem Tick_calls (g B : Nat) (me last : Int) (Q R : List (Int × List Int)) (w : World) (h : GAt w g B me last Q R) (hq : ∀ p ∈ Q, Req p) :
    Calls Try.prog 14 #[.pointer (some ⟨g, 0, none⟩)] w fun e w' => TickIs me w w' e Q ∧ Below w.heap.size w w' := by
  obtain ⟨va, vb, hb, hQ, hR, hBg⟩ := h
  cases Q with
  | nil =>
    have k1 := Aside0.mk (first_calls g B _ _ _ _ _ _ w hb hQ)
    clear hb hQ hR hBg hq
    go_enter Try.func14, Try.ntmps14
    go_wp2_with fail
    refine k1.out.mono ?_
    rintro e w1 ⟨he, hbl⟩
    simp only [FirstIs] at he
    subst he
    have HB := Aside0.mk (below_alloc hbl (.cells #[.int .u64 0, .slice none 0 0] 71))
    clear hbl
    go_wp2_with fail
    go_ret
    exact ⟨rfl, HB.out⟩
  | cons p Q =>
    have k1 := Aside0.mk (first_calls g B _ _ _ _ _ _ w hb hQ)
    have hp := hq p (by simp)
    have Hb := Aside0.mk hb
    clear hb hQ hR hBg hq
    go_enter Try.func14, Try.ntmps14
    go_wp2_with fail
    refine k1.out.mono ?_
    rintro e w1 ⟨⟨A1, c1, rfl, hc1, hF⟩, hbl⟩
    have HF := Aside0.mk hF
    have HB := Aside0.mk hbl
    clear hbl hF hc1 k1
    go_wp2_with fail
    have hbx := Aside0.mk (Blk.new_ (W := w1) (o := .cells #[.int .u64 p.1, .slice A1 p.2.length c1] 71))
    have hbg := Aside0.mk ((Hb.out.below HB.out).alloc (o' := .cells #[.int .u64 p.1, .slice A1 p.2.length c1] 71))
    have HB2 := Aside0.mk (below_alloc HB.out (.cells #[.int .u64 p.1, .slice A1 p.2.length c1] 71))
    have HF2 := Aside0.mk (Kd.F_drew (Kd.F_alloc (Kd.F_below HF.out HB.out) (.cells #[.int .u64 p.1, .slice A1 p.2.length c1] 71)))
    have hB := Aside0.mk (show w.heap.size ≤ w1.heap.size from HB.out.size)
    generalize w1.alloc (.cells #[.int .u64 p.1, .slice A1 p.2.length c1] 71) = W at hbx hbg HB2 HF2 ⊢
    obtain ⟨x, hx⟩ : ∃ x, w1.heap.size = x := ⟨_, rfl⟩
    rw [hx] at hbx hB ⊢
    clear hx HF
    have d0 := hbx.out.cell 0
    have d1 := hbx.out.cell 1
    have c0 := hbg.out.cell 0
    simp at d0 d1 c0
    have kp := Aside0.mk (gPut_calls p.1 A1 c1 p.2 W.drew (Kd.F_now HF2.out) (by have := hp.2.2; omega) hp.1 hp.2.1)
    clear hp
    go_region_with (go_at_call 17; (with_reducible refine kp.out.mono ?_); rintro e w2 ⟨v2, rfl, hV, hb⟩; (obtain ⟨A2, k2, ev⟩ := Kd.R_slice hV); subst ev; (have HV := Aside0.mk hV); (have HB3 := Aside0.mk (below_step (below_drew (Below.refl W.heap.size W)) hb)); (have hb3 := Aside0.mk (hbg.out.below HB3.out)); (have e0 := hb3.out.cell 0); simp at e0; clear hV hb)
    all_goals
      go_wp2_with fail
      go_ret
      refine ⟨⟨w2.heap.size, A2, k2, rfl, Blk.new_, Nat.le_trans HB2.out.size HB3.out.size, ?_⟩, below_alloc (below_step HB2.out HB3.out) _⟩
      exact Kd.R_mono (Kd.R_alloc (Kd.R_bound (Kd.R_lower HV.out HB2.out.size)) _) (fun k hk => by have := hk.2.2.1; omega)
theorem Tick_nil (w : World) : Calls Try.prog 14 #[.pointer none] w fun e w' => e = .returned (.slice none 0 0) ∧ w = w' := by
  go_enter Try.func14, Try.ntmps14
  go_wp2_with fail
  go_ret
  exact ⟨rfl, rfl⟩
theorem Ask_nil (A : Option Addr) (n c : Nat) (w : World) : Calls Try.prog 12 #[.pointer none, .slice A n c] w fun e w' => e = .returned (.tuple #[.int .u64 0, .int .i64 8]) ∧ w = w' := by
  go_enter Try.func12, Try.ntmps12
  go_wp2_with fail
  go_ret2
  exact ⟨rfl, rfl⟩
theorem Answers_nil (w : World) : Calls Try.prog 20 #[.pointer none] w fun e w' => e = .returned (.slice none 0 0) ∧ w = w' := by
  go_enter Try.func20, Try.ntmps20
  go_wp2_with fail
  go_ret
  exact ⟨rfl, rfl⟩
theorem Queue_nil (w : World) : Calls Try.prog 21 #[.pointer none] w fun e w' => e = .returned (.int .i64 0) ∧ w = w' := by
  go_enter Try.func21, Try.ntmps21
  go_wp2_with fail
  go_ret
  exact ⟨rfl, rfl⟩
theorem Hear_nil (A : Option Addr) (n c : Nat) (w : World) : Calls Try.prog 16 #[.pointer none, .slice A n c] w fun e w' => e = .returned (.tuple #[]) ∧ w = w' := by
  go_enter Try.func16, Try.ntmps16
  go_wp2_with fail
  refine bodyPost_ret (v := .tuple #[]) (by simp [results, Try.results16, go_sem]) rfl ⟨rfl, rfl⟩
/-- The answers, told: none is left. -/
theorem Answers_calls (g B : Nat) (me last : Int) (Q R : List (Int × List Int)) (w : World) (h : GAt w g B me last Q R) :
    Calls Try.prog 20 #[.pointer (some ⟨g, 0, none⟩)] w fun e w' => ∃ v, e = .returned v ∧ Kd.N DQ 51 w' B (fun k => k ≠ g) v R ∧ GAt w' g B me last Q [] ∧ KeepBut w w' g none ∧ Below B w w' := by
  obtain ⟨va, vb, hb, hQ, hR, hBg⟩ := h
  have k1 := Aside0.mk (all_calls g _ _ _ _ w hb (by obtain ⟨A, c, e⟩ := Kd.N_slice hR; exact ⟨A, _, c, e⟩))
  have hQ' := Aside0.mk (Kd.N_far hQ (p := ⟨g, 3, none⟩) (fun k hk => hk.1) (.slice none 0 0))
  have hR' := Aside0.mk (Kd.N_far hR (p := ⟨g, 3, none⟩) (fun k hk => hk.1) (.slice none 0 0))
  have hb' := Aside0.mk (show Blk (w.setCell ⟨g, 3, none⟩ (.slice none 0 0)) g (.cells #[.int .i64 me, .int .u64 last, va, .slice none 0 0] 68) from hb.put 3 _ rfl)
  have HK := Aside0.mk (KeepBut.set_ (KeepBut.refl w g none) 3 (.slice none 0 0))
  have HB := Aside0.mk ((Below.refl B w).setCell (p := ⟨g, 3, none⟩) hBg (.slice none 0 0))
  clear hb hQ hR
  go_enter Try.func20, Try.ntmps20
  go_wp2_with fail
  refine k1.out.mono ?_
  rintro e w1 ⟨rfl, rfl⟩
  go_wp2_with fail
  go_ret
  exact ⟨vb, rfl, Kd.N_mono hR'.out (fun k hk => hk.1), ⟨va, .slice none 0 0, hb'.out, Kd.N_mono (Kd.N_bound hQ'.out) (fun k hk => ⟨hk.1.1, by simp [Value.ownBlock]⟩), Kd.N_nil _ _ _ _ _, hBg⟩, HK.out, HB.out⟩
/-- Of the requests of a gateway, and of the world: what every step of a statement's last line keeps. -/
structure Held (w0 W1 : World) (g : Nat) (me last : Int) (Q : List (Int × List Int)) (W : World) : Prop where
  keep : KeepBut W1 W g none
  at_ : GAt W g w0.heap.size me last Q []
  below : Below w0.heap.size w0 W
theorem Held.step {w0 W1 W W' : World} {g : Nat} {me last : Int} {Q : List (Int × List Int)} (h : Held w0 W1 g me last Q W) (hb : Below W.heap.size W W') : Held w0 W1 g me last Q W' :=
  ⟨h.keep.trans ⟨hb.size, fun i hi _ _ => hb.block i hi⟩ (.inl rfl), h.at_.below hb, below_then h.below h.below.size hb⟩
theorem Held.alloc {w0 W1 W : World} {g : Nat} {me last : Int} {Q : List (Int × List Int)} (h : Held w0 W1 g me last Q W) (o : Obj) : Held w0 W1 g me last Q (W.alloc o) := h.step (below_alloc (Below.refl _ _) o)
theorem Held.drew {w0 W1 W : World} {g : Nat} {me last : Int} {Q : List (Int × List Int)} (h : Held w0 W1 g me last Q W) : Held w0 W1 g me last Q W.drew := h.step (below_drew (Below.refl _ _))
theorem keep_blk_ {a b : World} {g x : Nat} {o : Obj} (h : KeepBut a b g none) (hb : Blk a x o) (hx : x ≠ g) : Blk b x o := ⟨(h.2 x hb.lt hx (by simp)).trans hb.out⟩
theorem keep_R_ {a b : World} {g base : Nat} {ok : Nat → Prop} {v : Value} {xs : List Int} (h : KeepBut a b g none) (hr : Kd.R (Kd.int .u8) 5 a base ok v xs) (hg : g < base) : Kd.R (Kd.int .u8) 5 b base ok v xs :=
  Kd.R_mono (Kd.R_step (Kd.R_bound hr) (fun k hk hlt => h.2 k hlt (by have := hk.2.1; omega) (by simp))) (fun k hk => hk.1)
theorem keep_F_ {a b : World} {g n : Nat} {A : Option Addr} {ok : Nat → Prop} {xs : List Int} (h : KeepBut a b g none) (hr : Kd.F (Kd.int .u8) a ok A n xs) (hg : ∀ k, ok k → k ≠ g) : Kd.F (Kd.int .u8) b ok A n xs :=
  Kd.F_step hr (fun k hk hlt => h.2 k hlt (hg k hk) (by simp))
end Go.Proofs.Ytpadajkdpldliaa.Ext
