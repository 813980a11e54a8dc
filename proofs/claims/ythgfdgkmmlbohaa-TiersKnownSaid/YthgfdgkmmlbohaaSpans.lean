/- tiers.Spans, proved by walking its code. -/
import Derived.Test.YthgfdgkmmlbohaaIter
import Derived.Test.YthgfdgkmmlbohaaChk
import Derived.Maps.AppendAt
import Derived.RangeFuncBound
namespace Go.Proofs.Ythgfdgkmmlbohaa.Ext
open Go.RowKit Go.Shelf Go.Proofs.YthgfdgkmmlbohaaW.PrintWords Go.Proofs.YthgfdgkmmlbohaaW.PrintLast Go.Proofs.YthgfdgkmmlbohaaW.PrintMore Go.Proofs.YthgfdgkmmlbohaaW.Hand Go.Proofs.Ythgfdgkmmlbohaa.PZ
attribute [local go_sem] Oper.semAt_some
set_option linter.unusedVariables false
set_option maxHeartbeats 1000000 in
/-- 'spans(l, n)': both are boxed; the function value captures the boxes. -/
theorem spans_in (F : Fence) (m : Nat) (hF : F.fn 19) (hro : F.round = none) (A : Option Addr) (len cap : Nat) (n : Int) (w : World) :
    CallsIn F m Try.prog 19 #[.slice A len cap, .int .i64 n] w fun e w' => e = .returned (.func (.func 27) #[] #[.pointer (some ⟨w.heap.size, 0, none⟩), .pointer (some ⟨w.heap.size + 1, 0, none⟩)]) ∧ w' = (w.alloc (.cells #[.slice A len cap] 22)).alloc (.cells #[.int .i64 n] 2) := by
  refine callsIn_of_wp Try.func19 rfl hF ?_ hro
  simp only [Try.ntmps19, List.size_toArray, List.length_cons, List.length_nil, Nat.reduceAdd, Nat.reduceSub, Array.replicate_succ, Array.replicate_zero, List.push_toArray, List.append_toArray, List.nil_append, List.cons_append]
  gi_wp2
  go_ret
  exact ⟨rfl, rfl⟩
theorem spans_stops (F : Fence) (m : Nat) (hF : F.fn 27) (hro : F.round = none) (hn : 1 ≤ m) (Bl Bn : Nat) (A : Option Addr) (c : Nat) (ls : List S27) (n : Int) (w0 wL : World)
    (hC : Kd.C k27 w0 A ls.length ls) (hls : ∀ t ∈ ls, I64 t.f0) (hn0 : 0 ≤ n) (hn1 : n < 9223372036854775808) (hb0 : Below w0.heap.size w0 wL) (hBl : wL.heap[Bl]? = some (Obj.cells #[.slice A ls.length c] 22 (0, 0))) (hBn : wL.heap[Bn]? = some (Obj.cells #[.int .i64 n] 2 (0, 0))) :
    SeqStopsK F m Try.prog 27 #[.pointer (some ⟨Bl, 0, none⟩), .pointer (some ⟨Bn, 0, none⟩)] encsT (KpT w0.heap.size Bn) (fun ys => ys = spansFrom n 0 ls) (fun pre => pre <+: spansFrom n 0 ls) ls.length wL := fun l J Jx W hW hJ hJx hY h0 => by
  have hl := (hW.block Bl (Array.getElem?_eq_some_iff.1 hBl).1).trans hBl
  have hn := (hW.block Bn (Array.getElem?_eq_some_iff.1 hBn).1).trans hBn
  exact spans1_in F m hF hro (by omega) l Bl Bn A c ls n w0 hC hls hn0 hn1 J Jx W hJ (hb0.trans (below_weak_ hW hb0.size)) ((cell_of_row W Bl 0 _ _ _ hl).trans rfl) hn (fun pre x W h1 h2 _ => hY pre x W h1 h2) h0
abbrev ST := { x : S27 × Int // I64 x.1.f1 ∧ I64 x.2 }
theorem spans_range {ls : List S27} {n : Int} (h1 : ∀ t ∈ ls, I64 t.f1) (hn0 : 0 ≤ n) (hn1 : n < 9223372036854775808) : ∀ (was : Int), 0 ≤ was → ∀ x ∈ spansFrom n was ls, I64 x.1.f1 ∧ I64 x.2 := by
  induction ls with
  | nil => intro was _ x hx; cases hx
  | cons t ls ih =>
    intro was hw x hx
    rcases List.mem_cons.1 hx with rfl | hx
    · refine ⟨h1 t (by simp), ?_⟩
      unfold spanOf endOf I64
      dsimp only
      split <;> (try split) <;> (try split) <;> omega
    · refine ih (fun u hu => h1 u (by simp [hu])) (wasOf was t) (by unfold wasOf; split <;> omega) x hx
theorem spans_stopsT (F : Fence) (m : Nat) (hF : F.fn 27) (hro : F.round = none) (hn : 1 ≤ m) (Bl Bn : Nat) (A : Option Addr) (c : Nat) (ls : List S27) (n : Int) (w0 wL : World)
    (hC : Kd.C k27 w0 A ls.length ls) (hls : ∀ t ∈ ls, I64 t.f0 ∧ I64 t.f1) (hn0 : 0 ≤ n) (hn1 : n < 9223372036854775808) (hb0 : Below w0.heap.size w0 wL) (hBl : wL.heap[Bl]? = some (Obj.cells #[.slice A ls.length c] 22 (0, 0))) (hBn : wL.heap[Bn]? = some (Obj.cells #[.int .i64 n] 2 (0, 0))) :
    SeqStopsK F m Try.prog 27 #[.pointer (some ⟨Bl, 0, none⟩), .pointer (some ⟨Bn, 0, none⟩)] (fun x : ST => encsT x.1) (KpT w0.heap.size Bn) (fun ys => ys.map Subtype.val = spansFrom n 0 ls) (fun pre => pre.map Subtype.val <+: spansFrom n 0 ls) ls.length wL := fun l J Jx W hW hJ hJx hY h0 => by
  have hl := (hW.block Bl (Array.getElem?_eq_some_iff.1 hBl).1).trans hBl
  have hn := (hW.block Bn (Array.getElem?_eq_some_iff.1 hBn).1).trans hBn
  refine (spans1_in F m hF hro (by omega) l Bl Bn A c ls n w0 hC (fun t ht => (hls t ht).1) hn0 hn1 (fun pre W => ∃ p : List ST, p.map Subtype.val = pre ∧ J p W) (fun pre W => ∃ p : List ST, p.map Subtype.val = pre ∧ Jx p W) W (fun s A B row hs hg hr => by
    obtain ⟨p, e, hp⟩ := hs
    exact ⟨p, e, hJ p A B row hp hg hr⟩) (hb0.trans (below_weak_ hW hb0.size)) ((cell_of_row W Bl 0 _ _ _ hl).trans rfl) hn (fun pre x W h1 h2 h3 => ?_) ⟨[], rfl, h0⟩).mono ?_
  · obtain ⟨p, rfl, hp⟩ := h1
    refine YieldAt.mono (hY p ⟨x, spans_range (fun t ht => (hls t ht).2) hn0 hn1 0 (by omega) x h3⟩ W hp (by simpa using h2)) ?_
    rintro e W' (⟨rfl, hj, hk⟩ | ⟨rfl, hj⟩)
    · exact .inl ⟨rfl, ⟨_, by simp, hj⟩, hk⟩
    · exact .inr ⟨rfl, _, by simp, hj⟩
  · rintro e W' ⟨he, h⟩
    refine ⟨he, ?_⟩
    rcases h with ⟨ys, rfl, p, hp, hj⟩ | ⟨pre, hpre, p, rfl, hj⟩
    · exact .inl ⟨p, hp, hj⟩
    · exact .inr ⟨p, hpre, hj⟩
theorem kpt_b {n₀ Bn : Nat} {w : World} (hn : n₀ ≤ w.heap.size) (hB : Bn < w.heap.size) (W : World) (l : Nat) (o o' : Obj) (hl : w.heap.size ≤ l) (h : W.heap[l]? = some o) (hc : o.isCells = false) (hw : o.isWalk = false) : KpT n₀ Bn W (W.putObj l o') := by
  have hne : ∀ k, k ≠ l → (W.putObj l o').heap[k]? = W.heap[k]? := fun k hk => World.putObj_heap_other hk
  refine ⟨belowK_b hn W l o o' hl h hc hw, fun k c fr hk => ?_, fun o2 ho => (hne Bn (by omega)).trans ho⟩
  refine (hne k (fun e => ?_)).trans hk
  subst e
  rw [hk] at h
  cases h
  cases hc
theorem kpt_step {n₀ Bn : Nat} {W w1 : World} {B t e k L0 : Nat} {v v' : Value} {xs : List Value} {tmp : Obj} (hrow : W.ownsRow L0 e 1 v k xs) (hv : Boxed W B t v) (hgrow : (W.alloc tmp).grownBy w1 v.ownBlock) (ht : t ≠ 27) (he : e ≠ 27) (hs : n₀ ≤ W.heap.size)
    (hB : n₀ ≤ B) (hL : n₀ ≤ L0) (hBn : Bn < L0) (hBB : Bn ≠ B) (hlt : Bn < W.heap.size) : KpT n₀ Bn W (w1.setCell ⟨B, 0, none⟩ v') := by
  have hb : ∀ k, k < W.heap.size → k ≠ B → some k ≠ v.ownBlock → (w1.setCell ⟨B, 0, none⟩ v').heap[k]? = W.heap[k]? := fun k hk h1 h2 =>
    (Below.heap_setCell w1 ⟨B, 0, none⟩ v' k h1).trans ((hgrow.block k (by simp; omega) h2).trans (Below.heap_alloc W tmp k hk))
  have hr : v.ownBlock = none ∨ ∃ g cells fr, v.ownBlock = some g ∧ L0 ≤ g ∧ W.heap[g]? = some (Obj.cells cells e fr) := by
    rcases hrow.2 with ⟨rfl, _⟩ | ⟨g, cap, cur, rfl, hb, hgb, _⟩
    · exact .inl rfl
    · exact .inr ⟨g, _, _, rfl, hb, hgb⟩
  refine ⟨(((Below.refl n₀ W).alloc hs tmp).grown hgrow (by simp; omega) fun j ej => ?_).setCell (p := ⟨B, 0, none⟩) hB v', fun j c fr hj => ?_, fun o ho => ?_⟩
  · rcases hr with h | ⟨g, cells, fr, h, h1, h2⟩
    · rw [h] at ej; cases ej
    · rw [h] at ej; injection ej with ej; omega
  · refine (hb j (Array.getElem?_eq_some_iff.1 hj).1 (fun e1 => ?_) (fun e1 => ?_)).trans hj
    · subst e1
      have : W.heap[j]? = some (.cells #[v] t (0, 0)) := hv
      rw [hj] at this
      injection this with this
      injection this with _ h2
      exact ht h2.symm
    · rcases hr with h | ⟨g, cells, fr2, h, h1, h2⟩
      · rw [h] at e1; cases e1
      · rw [h] at e1
        injection e1 with e1
        subst e1
        rw [hj] at h2
        injection h2 with h2
        injection h2 with _ h3
        exact he h3.symm
  · refine (hb Bn hlt hBB (fun e1 => ?_)).trans ho
    rcases hr with h | ⟨g, cells, fr2, h, h1, h2⟩
    · rw [h] at e1; cases e1
    · rw [h] at e1
      injection e1 with e1
      omega
/-- What Spans answers. -/
def spansL (ls : List S27) (n : Int) : List Int := if chk ls = true ∧ 0 ≤ n then (spansFrom n 0 ls).map (·.2) else []
theorem chk_range {ls : List S27} (h : chk ls = true) : ls.length ≤ 4 ∧ ∀ t ∈ ls, I64 t.f0 ∧ I64 t.f1 := by
  unfold chk at h
  rw [Bool.and_eq_true, decide_eq_true_eq] at h
  refine ⟨h.1.2, ?_⟩
  have key : ∀ (l : List S27) (was : Int), 0 ≤ was → chkFrom was l = true → ∀ t ∈ l, I64 t.f0 ∧ I64 t.f1 := by
    intro l
    induction l with
    | nil => intro was _ _ t ht; cases ht
    | cons t l ih =>
      intro was hw hc x hx
      cases l with
      | nil =>
        simp only [chkFrom, okP, Bool.and_eq_true, decide_eq_true_eq, beq_iff_eq] at hc
        simp only [List.mem_singleton] at hx
        subst hx
        unfold I64; omega
      | cons u l =>
        simp only [chkFrom, okP, Bool.and_eq_true, decide_eq_true_eq] at hc
        rcases List.mem_cons.1 hx with rfl | hx
        · unfold I64; omega
        · exact ih t.f0 (by omega) hc.2 x hx
  exact key ls 0 (by omega) h.2
theorem infoI64 : (Try.prog.info? 2).map (fun i => (i.zero, i.size, i.bytes)) = some (some (.int .i64 0), 1, 8) := by kernel_rfl
def tiers_Spans.f (ls : List S27) (n : Int) : Option (List Int) := if I64 n then some (spansL ls n) else none
set_option maxRecDepth 100000 in
set_option maxHeartbeats 2000000 in
theorem Spans_yes (A : Option Addr) (c : Nat) (ls : List S27) (n : Int) (w : World) (hC : Kd.C k27 w A ls.length ls) (hcap : ls.length ≤ c) (hk : chk ls = true) (hn0 : 0 ≤ n) (hn1 : n < 9223372036854775808) :
    Calls Try.prog 15 #[.slice A ls.length c, .int .i64 n] w fun e w' => ∃ v : Value, e = .returned v ∧ Kd.R (Kd.int .i64) 2 w' w.heap.size (fun _ => True) v ((spansFrom n 0 ls).map (·.2)) ∧ Below w.heap.size w w' := by
  obtain ⟨hl4, hls⟩ := chk_range hk
  have kc := Aside0.mk (tiers_Check.calls A c ls true w hC hcap (by unfold tiers_Check.f; rw [hk]))
  have HC := Aside0.mk hC
  have HLS := Aside0.mk hls
  obtain ⟨i0, hi, hz0, hz1, hz2⟩ := info_parts infoI64
  have hnn : decide (n < 0) = false := decide_eq_false (by omega)
  clear hC hls hk
  refine (callsIn_wide (n := 5)).1 ?_
  refine callsIn_of_wp_marks Try.func15 rfl trivial ?_ rfl
  simp only [Try.ntmps15, List.size_toArray, List.length_cons, List.length_nil, Nat.reduceAdd, Nat.reduceSub, Array.replicate_succ, Array.replicate_zero, List.push_toArray, List.append_toArray, List.nil_append, List.cons_append]
  gi_wp2_with fail
  refine ⟨trivial, callsIn_wide.2 ?_⟩
  refine kc.out.mono ?_
  rintro e w1 ⟨rfl, hb⟩
  have HB := Aside0.mk hb
  have HC1 := Aside0.mk (Kd.C_below HC.out hb)
  clear hb kc
  gi_wp2_with fail
  refine ⟨trivial, ?_⟩
  refine (spans_in Fence.wide _ trivial rfl A ls.length c n _).mono ?_
  rintro e w2 ⟨rfl, rfl⟩
  gi_wp2_with fail
  have bO := (((Boxed.new w1 33 (.slice none 0 0)).alloc (.cells #[.slice A ls.length c] 22)).alloc (.cells #[.int .i64 n] 2))
  have bL := (Boxed.new (w1.alloc (.cells #[.slice none 0 0] 33)) 22 (.slice A ls.length c)).alloc (.cells #[.int .i64 n] 2)
  have bN := Boxed.new ((w1.alloc (.cells #[.slice none 0 0] 33)).alloc (.cells #[.slice A ls.length c] 22)) 2 (.int .i64 n)
  rw [World.size_alloc, World.size_alloc] at bN
  rw [World.size_alloc] at bL
  have hB1 : Below w1.heap.size w1 (((w1.alloc (.cells #[.slice none 0 0] 33)).alloc (.cells #[.slice A ls.length c] 22)).alloc (.cells #[.int .i64 n] 2)) := (((Below.refl _ w1).alloc (Nat.le_refl _) _).alloc (by simp) _).alloc (by simp; omega) _
  have hsz : (((w1.alloc (.cells #[.slice none 0 0] 33)).alloc (.cells #[.slice A ls.length c] 22)).alloc (.cells #[.int .i64 n] 2)).heap.size = w1.heap.size + 3 := by simp
  obtain ⟨wL, hwL⟩ : ∃ W, (((w1.alloc (.cells #[.slice none 0 0] 33)).alloc (.cells #[.slice A ls.length c] 22)).alloc (.cells #[.int .i64 n] 2)) = W := ⟨_, rfl⟩
  rw [hwL] at bO bL bN hB1 hsz ⊢
  clear hwL
  obtain ⟨L0, hL0⟩ : ∃ L, wL.heap.size = L := ⟨_, rfl⟩
  have hL3 : w1.heap.size + 3 = L0 := by omega
  have HLS2 : ∀ t ∈ ls, I64 t.f0 := fun t ht => (HLS.out t ht).1
  refine wpIn_rangeFunc_ownF rfl (by omega) (gf := 27) (lb := #[.pointer (some ⟨w1.heap.size + 1, 0, none⟩), .pointer (some ⟨w1.heap.size + 1 + 1, 0, none⟩)]) rfl trivial (enters_of Try.func27 (by kernel_rfl) rfl)
    (spans_stops Fence.wide _ trivial rfl (by omega) (w1.heap.size + 1) (w1.heap.size + 1 + 1) A c ls n w1 wL HC1.out HLS2 hn0 hn1 hB1 bL bN) KpT.trans (kpt_b (by omega) (by omega)) (Below.refl _ _) (fun _ => rfl)
    (fun pre W => (∃ v, Boxed W w1.heap.size 33 v ∧ W.ownsRow L0 2 1 v pre.length (encs (Value.int .i64) (pre.map (·.2))) ∧ True) ∧ (Below w1.heap.size w1 W ∧ L0 ≤ W.heap.size))
    (fun _ _ _ => False)
    (OwnFrom.and (Own.from (holdsRow_own L0 w1.heap.size 33 2 1 (fun pre : List (S27 × Int) => pre.length) (fun pre => encs (Value.int .i64) (pre.map (·.2))) (fun _ _ => True)) _) (OwnFrom.and (ownFrom_below (Nat.le_refl _) (by omega)) (fun s A B row hs hg _ => Nat.le_trans hs hg.size)))
    (fun _ _ _ _ _ hs _ _ => hs)
    ⟨⟨_, bO, World.ownsRow_nil _ _ _ _, trivial⟩, hB1, by omega⟩
    (fun x => { tmps := #[.slice A ls.length c, .int .i64 n, undef, undef, .slice none 0 0, .pointer (some ⟨w1.heap.size, 0, none⟩), undef, .int .i64 x.2, .slice A ls.length c, .bool true, .bool false, .bool false, .int .i64 n, .bool false, .bool false, .slice A ls.length c, .int .i64 n, .func (.func 27) #[] #[.pointer (some ⟨w1.heap.size + 1, 0, none⟩), .pointer (some ⟨w1.heap.size + 1 + 1, 0, none⟩)], .agg #[.int .i64 x.1.f0, .int .i64 x.1.f1], .int .i64 x.2, undef, undef, undef, undef, undef], defers := [] }) ?assign ?body ?done ?stop
  case assign =>
    intro l x W K hK
    gi_wp2
    exact hK
  case body =>
    rintro l pre x W ⟨⟨v, hv, hrow, _⟩, hB, hLW⟩ hlt
    have hc := hv.cell
    have HR := Aside0.mk hrow
    have HV := Aside0.mk hv
    have HBW := Aside0.mk hB
    clear hrow hB hv
    gi_wp2_with (gi_at_builtin; refine wpListIn_append_own _ rfl _ _ 33 rfl L0 2 i0 (.int .i64 0) 1 8 Try.underlying33 hi hz0 hz1 hz2 rfl (by decide) _ _ _ rfl (HR.out.alloc _) ⟨W.heap.size, 0, none⟩ 1 1 [.int .i64 x.2] rfl rfl (cell_one_new _ _ _) (by simp [Value.oneCell']) (by simp only [maxLen]; omega) (by omega) ?hz ?_; (case hz => (simp; omega)); intro v' w3 hown' hgrow _; have hgrow : (W.alloc (.cells #[.int .i64 x.2] 2)).grownBy w3 v.ownBlock := hgrow; obtain ⟨g', cap', rfl⟩ := ownsRow_succ hown'; have hv1 : Boxed w3 w1.heap.size 33 v := (HV.out.alloc _).kept hgrow (HV.out.not_row (by decide) HR.out); have hc1 := hv1.cell; have hf1 := hv1.frozen; have HV1 := Aside0.mk hv1; have HO := Aside0.mk hown'; have HG := Aside0.mk hgrow; clear hv1 hown' hgrow)
    have hr2 := HO.out.kept (grownBy_setCell' w3 w1.heap.size (.slice (some ⟨g', 0, none⟩) (pre.length + 1) cap')) (.inr (HV1.out.not_row (by decide) HO.out).symm)
    have hr3 : (w3.setCell ⟨w1.heap.size, 0, none⟩ (.slice (some ⟨g', 0, none⟩) (pre.length + 1) cap')).ownsRow L0 2 1 (.slice (some ⟨g', 0, none⟩) (pre.length + 1) cap') (pre ++ [x]).length (encs (Value.int .i64) ((pre ++ [x]).map (·.2))) := by
      have e1 : (pre ++ [x]).length = pre.length + 1 := by simp
      have e2 : encs (Value.int .i64) ((pre ++ [x]).map (·.2)) = encs (Value.int .i64) (pre.map (·.2)) ++ [Value.int .i64 x.2] := by simp [encs]
      rw [e1, e2]
      exact hr2
    have hkp := kpt_step (Bn := w1.heap.size + 1 + 1) (n₀ := w1.heap.size) (v' := .slice (some ⟨g', 0, none⟩) (pre.length + 1) cap') HR.out HV.out HG.out (by decide) (by decide) (by have := HBW.out.size; omega) (Nat.le_refl _) (by omega) (by omega) (by omega) (by have := hLW; omega)
    have hko : KeepsOthers W (w3.setCell ⟨w1.heap.size, 0, none⟩ (.slice (some ⟨g', 0, none⟩) (pre.length + 1) cap')) := by
      refine ((KeepsOthers.alloc W _).trans (KeepsOthers.of_grownBy HG.out fun j o ej hj => ?_)).trans (KeepsOthers.setCell _ _ _)
      rcases (HR.out.alloc (.cells #[.int .i64 x.2] 2)).2 with ⟨rfl, _⟩ | ⟨g, cap, cur, rfl, _, hgb, _⟩
      · simp [Value.ownBlock] at ej
      · obtain rfl : g = j := by simpa [Value.ownBlock] using ej
        rw [hgb] at hj; cases hj; rfl
    exact ⟨hko, hkp, ⟨_, HV1.out.set _, hr3, trivial⟩, HBW.out.trans hkp.1, Nat.le_trans hLW hkp.1.size⟩
  case done =>
    rintro D ys W hD rfl ⟨⟨v, hv, hrow, _⟩, hB, hLW⟩ hK
    have hc := hv.cell
    have HROW := Aside0.mk hrow
    have HBW := Aside0.mk hB
    clear hrow hB hv
    gi_wp2
    refine ⟨by simp, .inl ⟨_, _, rfl, run_takeDeferred hK, ?_⟩⟩
    have hr := ownsRow_putObj (l := D) HROW.out (.deferred none) hK rfl
    have hb := HBW.out.trans (belowK_b (n₀ := w1.heap.size) (w := w1) (Nat.le_refl _) W D _ (.deferred none) (by omega) hK rfl rfl)
    exact ⟨_, results_tmp rfl _ _ _, v, rfl, Kd.R_lower (Kd.R_of_own (by rw [List.length_map]; exact hr) (fun _ _ => trivial)) (by have := HB.out.size; omega), below_step HB.out hb⟩
  case stop =>
    rintro D c pre W _ _ h _
    exact h.elim
set_option maxRecDepth 100000 in
theorem Spans_no (A : Option Addr) (c : Nat) (ls : List S27) (n : Int) (w : World) (hC : Kd.C k27 w A ls.length ls) (hcap : ls.length ≤ c) (hk : chk ls = false ∨ n < 0) :
    Calls Try.prog 15 #[.slice A ls.length c, .int .i64 n] w fun e w' => e = .returned (.slice none 0 0) ∧ Below w.heap.size w w' := by
  have kc := Aside0.mk (tiers_Check.calls A c ls (chk ls) w hC hcap rfl)
  clear hC hcap
  cases hc : chk ls with
  | false =>
    rw [hc] at kc
    clear hk
    go_enter Try.func15, Try.ntmps15
    go_wp2_with fail
    refine kc.out.mono ?_
    rintro e w1 ⟨rfl, hb⟩
    have HB := Aside0.mk hb
    clear hb kc
    go_wp2_with fail
    go_ret
    exact ⟨rfl, HB.out⟩
  | true =>
    rw [hc] at kc hk
    have hn : n < 0 := by rcases hk with h | h; cases h; exact h
    clear hk
    go_enter Try.func15, Try.ntmps15
    go_wp2_with fail
    refine kc.out.mono ?_
    rintro e w1 ⟨rfl, hb⟩
    have HB := Aside0.mk hb
    clear hb kc
    go_wp2_with fail
    go_ret
    exact ⟨rfl, HB.out⟩
theorem tiers_Spans.calls (A0 : Option Addr) (c0 : Nat) (l0 : List S27) (a1 : Int) (r : List Int) (w : World) (hr0 : Kd.C k27 w A0 l0.length l0) (hc0 : l0.length ≤ c0) (h : tiers_Spans.f l0 a1 = some r) :
    Calls Try.prog 15 #[.slice A0 l0.length c0, .int .i64 a1] w fun e w' => ∃ v : Value, e = .returned v ∧ Kd.R (Kd.int .i64) 2 w' w.heap.size (fun _ => True) v r ∧ Below w.heap.size w w' := by
  unfold tiers_Spans.f at h
  by_cases h1 : I64 a1
  · rw [if_pos h1] at h
    obtain rfl := Option.some.inj h
    unfold I64 at h1
    by_cases h2 : chk l0 = true ∧ 0 ≤ a1
    · unfold spansL
      rw [if_pos h2]
      exact Spans_yes A0 c0 l0 a1 w hr0 hc0 h2.1 h2.2 (by omega)
    · unfold spansL
      rw [if_neg h2]
      refine (Spans_no A0 c0 l0 a1 w hr0 hc0 ?_).mono fun e w' ⟨he, hb⟩ => ⟨_, he, Kd.R_nil _ _ _ _ _, hb⟩
      cases hc : chk l0 with
      | false => exact .inl rfl
      | true => exact .inr (Int.not_le.1 (fun h3 => h2 ⟨hc, h3⟩))
  · rw [if_neg h1] at h; cases h
end Go.Proofs.Ythgfdgkmmlbohaa.Ext
