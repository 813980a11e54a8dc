/- Queues of package gate: drop, all, the put of answers, proved by walking their code. -/
import Derived.Test.YtpadajkdpldliaaGateQ
namespace Go.Proofs.Ytpadajkdpldliaa.Ext
open Go.RowKit Go.Proofs.YtpadajkdpldliaaW.PrintWords Go.Proofs.YtpadajkdpldliaaW.PrintLast Go.Proofs.YtpadajkdpldliaaW.PrintMore Go.Proofs.YtpadajkdpldliaaW.Hand
set_option linter.unusedVariables false
theorem N_empty (W : World) (B : Nat) (ok : Nat → Prop) (hb : B ≤ W.heap.size) (hk : ok W.heap.size) (e : TypeId) : Kd.N DQ e (W.alloc (.cells #[] e)) B ok (.slice (some ⟨W.heap.size, 0, none⟩) 0 0) [] := by
  refine Kd.R_N ⟨fun k h => ?_, [], ⟨rfl, .inr ⟨W.heap.size, 0, #[], rfl, hb, heap_new _ _, Nat.le_refl _, by simp [maxLen], rfl, rfl⟩⟩, Reps.none _ _⟩
  simp [Value.ownBlock] at h
  subst h; exact hk
theorem slice_from1 (A : Option Addr) (n k : Nat) (h1 : 1 ≤ n) (W : World) :
    (Instr.slice 62 (.slice A n k) (some (.int .i64 1)) none none).run Try.prog W = .ok (.slice (if k = 1 then A else A.map (·.add (1 * 2))) (n - 1) (k - 1)) W := by
  obtain ⟨i0, hi, hz0, hz1, hz2⟩ := info_parts infoReq
  have hel : Try.prog.elem 62 = 71 := by simp [Program.elem, Try.underlying62]
  have hu : Try.prog.underlying 62 = some (.slice (Try.prog.elem 62)) := by rw [hel]; exact Try.underlying62
  rw [run_slice_l W 62 A n k hu .i64 1 (by omega) (by omega), hel]
  simp [sizeOf, typeInfo, hi, hz1, sliced, Result.andThen]
set_option maxRecDepth 100000 in
set_option maxHeartbeats 1600000 in
theorem CloneQ_calls (okp : Nat → Prop) (A : Option Addr) (c : Nat) (Q : List (Int × List Int)) (w : World) (hF : Kd.F DQ w okp A Q.length Q) (hQ : Q.length ≤ 1000000) :
    Calls Try.prog 39 #[.slice A Q.length c] w fun e w' => ∃ v0 : Value, e = .returned v0 ∧ Kd.N DQ 71 w' w.heap.size (fun k => okp k ∨ w.heap.size ≤ k) v0 Q ∧ Below w.heap.size w w' := by
  have HF := Aside0.mk hF
  have ke : ∀ (w : World), (binOp .eql 62 (.slice A Q.length c) (.slice none 0 0)).run Try.prog w = .ok (.bool A.isNone) w := fun w => by
    simp [binOp, Go.run_equal_slice_nil w 62 71 A Q.length c Try.underlying62]
  cases A with
  | none =>
    have hl : Q = [] := by
      cases Q with
      | nil => rfl
      | cons x l =>
        obtain ⟨ad, c, e, _⟩ := Kd.F_get hF (0, []) 0 (by decide) (by simp)
        cases e
    subst hl
    clear hF
    rw [show ([] : List (Int × List Int)).length = 0 from rfl, Option.isNone_none] at ke
    go_enter Try.func39, Try.ntmps39
    go_wp2_with fail
    go_ret
    exact ⟨_, rfl, Kd.N_nil _ _ _ _ _, Below.refl _ _⟩
  | some ad =>
    clear hF
    go_enter Try.func39, Try.ntmps39
    go_wp2_with (at_builtin; refine Kd.N_append_rows DQ (w0 := w) (W := w.alloc (.cells #[] 71)) w.heap.size rfl (.tmp 5) (.tmp 6) 62 71 (.agg #[.int .u64 0, .slice none 0 0]) 32 rfl Try.underlying62 infoReq rfl (by decide) (by decide) (.slice (some ⟨w.heap.size, 0, none⟩) 0 0) [] Q (some ad) Q.length c (fun k => okp k ∨ w.heap.size ≤ k) (fun k => okp k ∧ k < w.heap.size) rfl rfl (N_empty w _ _ (Nat.le_refl _) (.inr (Nat.le_refl _)) _) (Kd.F_alloc (Kd.F_bound HF.out) _) (fun k hk => ⟨.inl hk.1, fun e => by simp [Value.ownBlock] at e; omega⟩) (fun k hk => .inr (by rw [size_alloc] at hk; omega)) (below_alloc (Below.refl _ _) _) (by rw [size_alloc]; omega) (by simp; omega) ?_; intro v1 w1 ho hb hg hat; simp only [List.nil_append] at ho; have HO := Aside0.mk ho; have HB := Aside0.mk hb; clear ho hb hg hat)
    go_ret
    exact ⟨v1, rfl, HO.out, HB.out⟩
set_option maxRecDepth 100000 in
set_option maxHeartbeats 3200000 in
theorem aput_calls (g B : Nat) (ok okp : Nat → Prop) (x0 x1 x2 va : Value) (Q : List (Int × List Int)) (n : Int) (A : Option Addr) (c : Nat) (bs : List Int) (w : World)
    (hb : Blk w g (.cells #[x0, x1, x2, va] 68)) (hN : Kd.N DQ 51 w B ok va Q) (hok : ∀ k, ok k → k ≠ g) (hfr : ∀ k, w.heap.size ≤ k → ok k)
    (hF : Kd.F (Kd.int .u8) w okp A bs.length bs) (hc : bs.length ≤ c) (hokp : ∀ k, okp k → ok k ∧ some k ≠ va.ownBlock) (hBg : B ≤ g) (hQ : Q.length ≤ 1000000) :
    Calls Try.prog 28 #[.pointer (some ⟨g, 3, none⟩), .agg #[.int .u64 n, .slice A bs.length c]] w fun e w' => e = .returned (.tuple #[]) ∧
      ∃ va', Blk w' g (.cells #[x0, x1, x2, va'] 68) ∧ Kd.N DQ 51 w' B ok va' (Q ++ [(n, bs)]) ∧ (va'.ownBlock = va.ownBlock ∨ ∃ b, va'.ownBlock = some b ∧ w.heap.size ≤ b) ∧ KeepBut w w' g va.ownBlock ∧ Below B w w' := by
  have hlt := hb.lt
  have c2 := hb.cell 3
  have f2 := hb.free 3
  simp at c2
  have HBk := Aside0.mk hb
  have HN := Aside0.mk (Kd.N_drew (Kd.N_alloc hN (.cells #[.int .u64 n, .slice A bs.length c] 51)))
  have HF := Aside0.mk (Kd.F_drew (Kd.F_alloc hF (.cells #[.int .u64 n, .slice A bs.length c] 51)))
  have hnb := Aside0.mk (Kd.N_away hN hok)
  have HP := Aside0.mk hokp
  have HFR := Aside0.mk hfr
  have HK := Aside0.mk hok
  clear hb hN hF hokp hfr hok
  go_enter Try.func28, Try.ntmps28
  go_wp2_with fail
  have hbx := Aside0.mk (Blk.new_ (W := w) (o := .cells #[.int .u64 n, .slice A bs.length c] 51))
  have hbg := Aside0.mk (HBk.out.alloc (o' := .cells #[.int .u64 n, .slice A bs.length c] 51))
  have hsz := Aside0.mk (size_alloc w (.cells #[.int .u64 n, .slice A bs.length c] 51))
  have hbl := Aside0.mk (below_weak (B := B) (below_alloc (Below.refl w.heap.size w) (.cells #[.int .u64 n, .slice A bs.length c] 51)) (by omega))
  have hkp := Aside0.mk (keep_alloc (KeepBut.refl w g none) (.cells #[.int .u64 n, .slice A bs.length c] 51))
  have hBh : B ≤ w.heap.size := by omega
  obtain ⟨h, hh⟩ : ∃ h, w.heap.size = h := ⟨_, rfl⟩
  generalize w.alloc (.cells #[.int .u64 n, .slice A bs.length c] 51) = W at HN HF hbx hbg hsz hbl hkp ⊢
  have HHH := Aside0.mk hh
  rw [hh] at hbx hsz HFR hBh ⊢
  clear hh c2 f2
  have hgW := hbg.out.lt
  have hhW : h < W.heap.size := by have := hsz.out; omega
  have c2 := hbg.out.cell 3
  have f2 := hbg.out.free 3
  have d0 := hbx.out.cell 0
  have d1 := hbx.out.cell 1
  simp at c2 d0 d1
  go_region_law (refine Kd.N_append_step DQ (w0 := w) (W := W.drew) B (by kernel_rfl) (.tmp 8) (.tmp 10) 48 51 (.agg #[.int .u64 0, .slice none 0 0]) 32 rfl Try.underlying48 infoAns rfl (by decide) (by decide) va Q (n, bs) [.int .u64 n, .slice A bs.length c] ok okp rfl rfl (fk_mk hc HF.out) HP.out (fun k hk => HFR.out k (by have := hsz.out; have hk : W.heap.size ≤ k := hk; omega)) HN.out (below_drew hbl.out) (by have := hsz.out; show B ≤ W.heap.size; omega) (by omega) ?_; intro v1 w1 ho hb1 hg1 hat1; obtain ⟨A1, k1, ev⟩ := Kd.N_slice ho; subst ev; (have hbg1 := Aside0.mk (show Blk w1 g _ from ⟨(hg1.block g hbg.out.lt hnb.out).trans hbg.out.drew.out⟩)); (have e2 := hbg1.out.cell 3); (have g2 := hbg1.out.free 3); simp at e2; (have hll : (Q ++ [(n, bs)]).length = Q.length + 1 := by simp); rw [hll] at ho hat1; (have HN1 := Aside0.mk ho); (have HB1 := Aside0.mk hb1); (have HG1 := Aside0.mk hg1); (have HA1 := Aside0.mk hat1); clear ho hb1 hg1 hat1)
  all_goals
    go_end0
    refine ⟨rfl, _, hbg1.out.put 3 _ rfl, Kd.N_far HN1.out (fun k hk => HK.out k hk) _, ?_, ?_, ?_⟩
    · rcases HA1.out with h1 | ⟨b, h1, h2⟩
      · exact .inl h1
      · exact .inr ⟨b, h1, by have := hsz.out; have h3 := HHH.out; have h2 : W.heap.size ≤ b := h2; omega⟩
    · exact KeepBut.set_ (KeepBut.trans (⟨hkp.out.1, fun i hi h1 _ => hkp.out.2 i hi h1 (by simp)⟩ : KeepBut w W.drew g va.ownBlock) (KeepBut.of_grown HG1.out g) (.inl rfl)) _ _
    · exact HB1.out.setCell hBg _
set_option maxRecDepth 100000 in
set_option maxHeartbeats 1600000 in
theorem drop_calls (g B : Nat) (ok : Nat → Prop) (x0 x1 va x3 : Value) (p : Int × List Int) (Q : List (Int × List Int)) (w : World)
    (hb : Blk w g (.cells #[x0, x1, va, x3] 68)) (hN : Kd.N DQ 71 w B ok va (p :: Q)) (hok : ∀ k, ok k → k ≠ g) (hfr : ∀ k, w.heap.size ≤ k → ok k) (hBg : B ≤ g) (hQ : Q.length ≤ 1000000) :
    Calls Try.prog 27 #[.pointer (some ⟨g, 2, none⟩)] w fun e w' => e = .returned (.tuple #[]) ∧
      ∃ va', Blk w' g (.cells #[x0, x1, va', x3] 68) ∧ Kd.N DQ 71 w' B ok va' Q ∧ (va'.ownBlock = none ∨ ∃ b, va'.ownBlock = some b ∧ w.heap.size ≤ b) ∧ KeepBut w w' g none ∧ Below B w w' := by
  have hlt := hb.lt
  obtain ⟨g1, k1, ev, hg1, hg1l, _⟩ := Kd.N_form hN (by simp)
  subst ev
  have c2 := hb.cell 2
  have f2 := hb.free 2
  simp at c2
  have hbd := (Kd.N_reads' hN).2.1
  have hs := slice_from1 (some ⟨g1, 0, none⟩) (Q.length + 1) k1 (by omega)
  rw [Nat.add_sub_cancel] at hs
  have hF : Kd.F DQ w (fun k => ok k) (if k1 = 1 then some ⟨g1, 0, none⟩ else (some (⟨g1, 0, none⟩ : Addr)).map (·.add (1 * 2))) Q.length Q := Kd.F_cut (m := 1) (c := k1) (Kd.N_F hN) (by simp) hbd
  obtain ⟨A2, hA2⟩ : ∃ A2, (if k1 = 1 then some (⟨g1, 0, none⟩ : Addr) else (some (⟨g1, 0, none⟩ : Addr)).map (·.add (1 * 2))) = A2 := ⟨_, rfl⟩
  rw [hA2] at hs hF
  have kc := Aside0.mk (CloneQ_calls _ A2 (k1 - 1) Q w hF hQ)
  have HBk := Aside0.mk hb
  have HFR := Aside0.mk hfr
  have HK := Aside0.mk hok
  clear hb hN hok hfr hF hA2 hbd
  go_enter Try.func27, Try.ntmps27
  go_wp2_with fail
  refine kc.out.mono ?_
  rintro e w1 ⟨v1, rfl, ho, hbl⟩
  obtain ⟨A3, k3, ev⟩ := Kd.N_slice ho
  subst ev
  have hbg := Aside0.mk (HBk.out.below hbl)
  have HO := Aside0.mk ho
  have HB := Aside0.mk hbl
  have e2 := hbg.out.cell 2
  have g2 := hbg.out.free 2
  simp at e2
  clear ho hbl
  go_wp2_with fail
  go_end0
  refine ⟨rfl, _, hbg.out.put 2 _ rfl, Kd.N_far (Kd.N_mono (Kd.N_lower HO.out (by omega)) (fun k hk => hk.elim id (HFR.out k))) (fun k hk => HK.out k hk) _, Kd.N_base2 HO.out, KeepBut.set_ (KeepBut.of_below HB.out g none) _ _, (below_weak HB.out (by omega)).setCell hBg _⟩
set_option maxRecDepth 100000 in
theorem all_calls (g : Nat) (x0 x1 x2 vb : Value) (w : World) (hb : Blk w g (.cells #[x0, x1, x2, vb] 68)) (hv : ∃ A n c, vb = .slice A n c) :
    Calls Try.prog 33 #[.pointer (some ⟨g, 3, none⟩)] w fun e w' => e = .returned vb ∧ w' = w.setCell ⟨g, 3, none⟩ (.slice none 0 0) := by
  obtain ⟨A, n, c, rfl⟩ := hv
  have c3 := hb.cell 3
  have f3 := hb.free 3
  simp at c3
  clear hb
  go_enter Try.func33, Try.ntmps33
  go_wp2_with fail
  go_ret
  exact ⟨rfl, rfl⟩
end Go.Proofs.Ytpadajkdpldliaa.Ext
