/- Queues of package gate: slices.Clone, put, first, drop, all, proved by walking their code. -/
import Derived.Test.YtpadajkdpldliaaNum
import Derived.Test.YtpadajkdpldliaaWMath
import Derived.Deep.RegionLaw
import Derived.OwnWalk
import Derived.Laws.Cover3
namespace Go.Proofs.Ytpadajkdpldliaa.Ext
open Go.RowKit Go.Proofs.YtpadajkdpldliaaW.PrintWords Go.Proofs.YtpadajkdpldliaaW.PrintLast Go.Proofs.YtpadajkdpldliaaW.PrintMore Go.Proofs.YtpadajkdpldliaaW.Hand
set_option linter.unusedVariables false
/-- A number and bytes: a request, or an answer. -/
abbrev DQ : Kd (Int × List Int) := Kd.pair (Kd.int .u64) (Kd.slice 5 (Kd.int .u8))
theorem below_weak {A B : Nat} {w W : World} (h : Below A w W) (hle : B ≤ A) : Below B w W := ⟨h.os, h.tape, h.output, h.size, fun i hi => h.block i (Nat.lt_of_lt_of_le hi hle)⟩
theorem fk_mk {W : World} {ok : Nat → Prop} {n : Int} {A : Option Addr} {c : Nat} {bs : List Int} (hl : bs.length ≤ c) (hf : Kd.F (Kd.int .u8) W ok A bs.length bs) : Kd.FK DQ W ok (n, bs) [.int .u64 n, .slice A bs.length c] :=
  fun W' hW => ⟨[.int .u64 n], [.slice A bs.length c], rfl, rfl, A, c, rfl, hl, hf W' hW⟩
theorem infoReq : (Try.prog.info? 71).map (fun i => (i.zero, i.size, i.bytes)) = some (some (.agg #[.int .u64 0, .slice none 0 0]), 2, 32) := by kernel_rfl
theorem infoAns : (Try.prog.info? 51).map (fun i => (i.zero, i.size, i.bytes)) = some (some (.agg #[.int .u64 0, .slice none 0 0]), 2, 32) := by kernel_rfl
set_option maxRecDepth 100000 in
set_option maxHeartbeats 800000 in
theorem Clone_calls (A : Option Addr) (c : Nat) (l : List Int) (w : World) (hr : Kd.C (Kd.int .u8) w A l.length l) (hm : l.length ≤ 140737488355000) :
    Calls Try.prog 25 #[.slice A l.length c] w fun e w' => ∃ v0 : Value, e = .returned v0 ∧ Kd.R (Kd.int .u8) 5 w' w.heap.size (fun k => w.heap.size ≤ k) v0 l ∧ Below w.heap.size w w' := by
  have HR := Aside0.mk hr
  have ke : ∀ (w : World), (binOp .eql 39 (.slice A l.length c) (.slice none 0 0)).run Try.prog w = .ok (.bool A.isNone) w := fun w => by
    simp [binOp, Go.run_equal_slice_nil w 39 5 A l.length c Try.underlying39]
  cases A with
  | none =>
    have hl : l = [] := by
      cases l with
      | nil => rfl
      | cons x l => obtain ⟨ad, e, _⟩ := C_cells hr (by simp); cases e
    subst hl
    clear hr
    rw [show ([] : List Int).length = 0 from rfl, Option.isNone_none] at ke
    go_enter Try.func25, Try.ntmps25
    go_wp2_with fail
    go_ret
    exact ⟨_, rfl, Kd.R_nil _ _ _ _ _, Below.refl _ _⟩
  | some ad =>
    clear hr
    go_enter Try.func25, Try.ntmps25
    go_wp2_with (at_builtin; refine Kd.R_append_row (Value.int .u8) (0 : Int) (w0 := w) w.heap.size rfl (.tmp 5) (.tmp 6) 39 5 (.int .u8 0) 1 rfl Try.underlying39 infoU8 rfl (by decide) (.slice (some ⟨w.heap.size, 0, none⟩) 0 0) [] l (some ad) l.length c (fun k => w.heap.size ≤ k) rfl rfl (fun k hk => by simp at hk; omega) (R_empty w _ _ (Nat.le_refl _) (Nat.le_refl _)) (Kd.C_alloc HR.out _) (below_alloc (Below.refl _ _) _) (by simp) (by simp; omega) ?_; intro v1 w1 ho hb hg hat; simp only [List.nil_append] at ho; have HO := Aside0.mk ho; have HB := Aside0.mk hb; clear ho hb hg hat)
    go_ret
    exact ⟨v1, rfl, HO.out, HB.out⟩
set_option maxRecDepth 100000 in
set_option maxHeartbeats 3200000 in
theorem qput_calls (g B : Nat) (ok okp : Nat → Prop) (x0 x1 va x3 : Value) (Q : List (Int × List Int)) (n : Int) (A : Option Addr) (c : Nat) (bs : List Int) (w : World)
    (hb : Blk w g (.cells #[x0, x1, va, x3] 68)) (hN : Kd.N DQ 71 w B ok va Q) (hok : ∀ k, ok k → k ≠ g) (hfr : ∀ k, w.heap.size ≤ k → ok k)
    (hF : Kd.F (Kd.int .u8) w okp A bs.length bs) (hc : bs.length ≤ c) (hokp : ∀ k, okp k → ok k ∧ some k ≠ va.ownBlock) (hBg : B ≤ g) (hQ : Q.length ≤ 1000000) :
    Calls Try.prog 24 #[.pointer (some ⟨g, 2, none⟩), .agg #[.int .u64 n, .slice A bs.length c]] w fun e w' => e = .returned (.tuple #[]) ∧
      ∃ va', Blk w' g (.cells #[x0, x1, va', x3] 68) ∧ Kd.N DQ 71 w' B ok va' (Q ++ [(n, bs)]) ∧ (va'.ownBlock = va.ownBlock ∨ ∃ b, va'.ownBlock = some b ∧ w.heap.size ≤ b) ∧ KeepBut w w' g va.ownBlock ∧ Below B w w' := by
  have hlt := hb.lt
  have c2 := hb.cell 2
  have f2 := hb.free 2
  simp at c2
  have HBk := Aside0.mk hb
  have HN := Aside0.mk (Kd.N_drew (Kd.N_alloc hN (.cells #[.int .u64 n, .slice A bs.length c] 71)))
  have HF := Aside0.mk (Kd.F_drew (Kd.F_alloc hF (.cells #[.int .u64 n, .slice A bs.length c] 71)))
  have hnb := Aside0.mk (Kd.N_away hN hok)
  have HP := Aside0.mk hokp
  have HFR := Aside0.mk hfr
  have HK := Aside0.mk hok
  clear hb hN hF hokp hfr hok
  go_enter Try.func24, Try.ntmps24
  go_wp2_with fail
  have hbx := Aside0.mk (Blk.new_ (W := w) (o := .cells #[.int .u64 n, .slice A bs.length c] 71))
  have hbg := Aside0.mk (HBk.out.alloc (o' := .cells #[.int .u64 n, .slice A bs.length c] 71))
  have hsz := Aside0.mk (size_alloc w (.cells #[.int .u64 n, .slice A bs.length c] 71))
  have hbl := Aside0.mk (below_weak (B := B) (below_alloc (Below.refl w.heap.size w) (.cells #[.int .u64 n, .slice A bs.length c] 71)) (by omega))
  have hkp := Aside0.mk (keep_alloc (KeepBut.refl w g none) (.cells #[.int .u64 n, .slice A bs.length c] 71))
  have hBh : B ≤ w.heap.size := by omega
  obtain ⟨h, hh⟩ : ∃ h, w.heap.size = h := ⟨_, rfl⟩
  generalize w.alloc (.cells #[.int .u64 n, .slice A bs.length c] 71) = W at HN HF hbx hbg hsz hbl hkp ⊢
  have HHH := Aside0.mk hh
  rw [hh] at hbx hsz HFR hBh ⊢
  clear hh c2 f2
  have hgW := hbg.out.lt
  have hhW : h < W.heap.size := by have := hsz.out; omega
  have c2 := hbg.out.cell 2
  have f2 := hbg.out.free 2
  have d0 := hbx.out.cell 0
  have d1 := hbx.out.cell 1
  simp at c2 d0 d1
  go_region_law (refine Kd.N_append_step DQ (w0 := w) (W := W.drew) B (by kernel_rfl) (.tmp 8) (.tmp 10) 62 71 (.agg #[.int .u64 0, .slice none 0 0]) 32 rfl Try.underlying62 infoReq rfl (by decide) (by decide) va Q (n, bs) [.int .u64 n, .slice A bs.length c] ok okp rfl rfl (fk_mk hc HF.out) HP.out (fun k hk => HFR.out k (by have := hsz.out; have hk : W.heap.size ≤ k := hk; omega)) HN.out (below_drew hbl.out) (by have := hsz.out; show B ≤ W.heap.size; omega) (by omega) ?_; intro v1 w1 ho hb1 hg1 hat1; obtain ⟨A1, k1, ev⟩ := Kd.N_slice ho; subst ev; (have hbg1 := Aside0.mk (show Blk w1 g _ from ⟨(hg1.block g hbg.out.lt hnb.out).trans hbg.out.drew.out⟩)); (have e2 := hbg1.out.cell 2); (have g2 := hbg1.out.free 2); simp at e2; (have hll : (Q ++ [(n, bs)]).length = Q.length + 1 := by simp); rw [hll] at ho hat1; (have HN1 := Aside0.mk ho); (have HB1 := Aside0.mk hb1); (have HG1 := Aside0.mk hg1); (have HA1 := Aside0.mk hat1); clear ho hb1 hg1 hat1)
  all_goals
    go_end0
    refine ⟨rfl, _, hbg1.out.put 2 _ rfl, Kd.N_far HN1.out (fun k hk => HK.out k hk) _, ?_, ?_, ?_⟩
    · rcases HA1.out with h1 | ⟨b, h1, h2⟩
      · exact .inl h1
      · exact .inr ⟨b, h1, by have := hsz.out; have h3 := HHH.out; have h2 : W.heap.size ≤ b := h2; omega⟩
    · exact KeepBut.set_ (KeepBut.trans (⟨hkp.out.1, fun i hi h1 _ => hkp.out.2 i hi h1 (by simp)⟩ : KeepBut w W.drew g va.ownBlock) (KeepBut.of_grown HG1.out g) (.inl rfl)) _ _
    · exact HB1.out.setCell hBg _
theorem fk_open {W : World} {ok : Nat → Prop} {p : Int × List Int} {c : List Value} (h : Kd.FK DQ W ok p c) : ∃ A k, c = [.int .u64 p.1, .slice A p.2.length k] ∧ p.2.length ≤ k ∧ Kd.F (Kd.int .u8) W ok A p.2.length p.2 := by
  obtain ⟨c0, c1, rfl, h0, A, k, rfl, hl, _⟩ := Kd.FK_now h
  have h0 : c0 = [.int .u64 p.1] := h0
  subst h0
  refine ⟨A, k, rfl, hl, fun W' hW => ?_⟩
  obtain ⟨c0', c1', he, h0', A', k', rfl, _, g'⟩ := h W' hW
  have h0' : c0' = [.int .u64 p.1] := h0'
  subst h0'
  simp only [List.cons_append, List.nil_append, List.cons.injEq, Value.slice.injEq, and_true, true_and] at he
  rw [he.1]
  exact g'
/-- What 'first' answers. -/
def FirstIs (w : World) (ok : Nat → Prop) (va : Value) (e : Ending) : List (Int × List Int) → Prop
  | [] => e = .returned (.tuple #[.agg #[.int .u64 0, .slice none 0 0], .bool false])
  | p :: _ => ∃ A c, e = .returned (.tuple #[.agg #[.int .u64 p.1, .slice A p.2.length c], .bool true]) ∧ p.2.length ≤ c ∧ Kd.F (Kd.int .u8) w (fun k => ok k ∧ some k ≠ va.ownBlock) A p.2.length p.2
set_option maxRecDepth 100000 in
set_option maxHeartbeats 3200000 in
/-- The first of a queue that is not empty. -/
theorem first_calls (g B : Nat) (ok : Nat → Prop) (x0 x1 va x3 : Value) (Q : List (Int × List Int)) (w : World)
    (hb : Blk w g (.cells #[x0, x1, va, x3] 68)) (hN : Kd.N DQ 71 w B ok va Q) :
    Calls Try.prog 26 #[.pointer (some ⟨g, 2, none⟩)] w fun e w' =>
      FirstIs w ok va e Q ∧ Below w.heap.size w w' := by
  have hlt := hb.lt
  have c2 := hb.cell 2
  simp at c2
  cases Q with
  | nil =>
    obtain ⟨A1, k1, ev⟩ := Kd.N_slice hN
    subst ev
    simp only [List.length_nil] at c2
    clear hb hN
    go_enter Try.func26, Try.ntmps26
    go_wp2_with fail
    refine bodyPost_ret (v := .tuple #[.agg #[.int .u64 0, .slice none 0 0], .bool false]) (by simp [results, Try.results26, go_sem]) rfl ⟨rfl, below_alloc (below_alloc (Below.refl _ _) _) _⟩
  | cons p Q =>
    obtain ⟨g1, k1, rfl, hg1, hg1l, _⟩ := Kd.N_form hN (by simp)
    obtain ⟨cc, hcl, hfk, hcc, _⟩ := Kd.N_elem hN (0, []) 0 (by decide) (by simp)
    obtain ⟨A, k, rfl, hk, hF⟩ := fk_open hfk
    have d0 := hcc 0 _ rfl
    have d1 := hcc 1 _ rfl
    simp at d0 d1 hk c2
    have hF := Aside0.mk (show Kd.F (Kd.int .u8) w (fun k => ok k ∧ k ≠ g1) A p.2.length p.2 from hF)
    clear hb hN hfk hcc hcl
    go_enter Try.func26, Try.ntmps26
    go_wp2_with fail
    refine bodyPost_ret (v := .tuple #[.agg #[.int .u64 p.1, .slice A p.2.length k], .bool true]) (by simp [results, Try.results26, go_sem]) rfl ⟨⟨A, k, rfl, hk, Kd.F_mono hF.out (fun j hj => ⟨hj.1, fun e => hj.2 (by simpa [Value.ownBlock] using e)⟩)⟩, below_alloc (below_alloc (Below.refl _ _) _) _⟩
end Go.Proofs.Ytpadajkdpldliaa.Ext
