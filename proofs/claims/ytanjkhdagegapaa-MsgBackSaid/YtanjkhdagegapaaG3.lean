import Derived.Test.YtanjkhdagegapaaG2
import Derived.Test.YtanjkhdagegapaaRead
import Derived.Deep.RegionHeldLaw
import Derived.Deep.RegionLaw
import Derived.Test.YtanjkhdagegapaaBeMath
section
/- plan.Get, proved by walking its code. -/
namespace Go.Proofs.Ytanjkhdagegapaa.Ext
open Go.RowKit Go.Shelf Go.Proofs.YtanjkhdagegapaaW.PrintWords Go.Proofs.YtanjkhdagegapaaW.PrintLast Go.Proofs.YtanjkhdagegapaaW.PrintMore Go.Proofs.YtanjkhdagegapaaW.Hand Go.Proofs.Ytanjkhdagegapaa.PZ
attribute [local go_sem] Oper.semAt_some
set_option linter.unusedVariables false
/-- A reader behind so many numbers. -/
def Rs.skip (r : Rs) : Nat → Rs
  | 0 => r
  | k + 1 => (r.skip k).int.2
/-- The number behind so many. -/
def Rs.nth (r : Rs) (k : Nat) : Int := (r.skip k).int.1
theorem int_len (r : Rs) : r.int.2.xs.length ≤ r.xs.length := by
  unfold Rs.int Rs.take
  by_cases h : r.bad = true ∨ r.xs.length < 8
  · rw [if_pos h]; exact Nat.le_refl _
  · rw [if_neg h]; simp
theorem skip_len (r : Rs) (k : Nat) : (r.skip k).xs.length ≤ r.xs.length := by
  induction k with
  | zero => exact Nat.le_refl _
  | succ k ih => exact Nat.le_trans (int_len _) ih
/-- The tiers that are read: so many. -/
def tiersOf (r : Rs) (n : Nat) : List S39 := (List.range n).map fun i => ⟨r.nth (6 + 2 * i), r.nth (7 + 2 * i)⟩
theorem tiersOf_snoc (r : Rs) (n : Nat) : tiersOf r (n + 1) = tiersOf r n ++ [⟨r.nth (6 + 2 * n), r.nth (7 + 2 * n)⟩] := by simp [tiersOf, List.range_succ]
def stepF (r : Rs) (s : Nat × (Nat → Int)) (x : Nat) : Nat × (Nat → Int) := (s.1 + 1, fun i => if i = x then r.nth s.1 else s.2 i)
/-- The numbers of a plan when so many places were filled. -/
def valsOf (r : Rs) (l : List Nat) : Nat × (Nat → Int) := l.foldl (stepF r) (0, fun _ => 0)
theorem valsOf_snoc (r : Rs) (l : List Nat) (x : Nat) : valsOf r (l ++ [x]) = stepF r (valsOf r l) x := by simp [valsOf]
theorem valsOf_fst (r : Rs) (l : List Nat) : (valsOf r l).1 = l.length := by
  suffices h : ∀ s, (l.foldl (stepF r) s).1 = s.1 + l.length by have := h (0, fun _ => 0); simpa [valsOf] using this
  induction l with
  | nil => intro s; rfl
  | cons x l ih => intro s; rw [List.foldl_cons, ih]; simp [stepF]; omega
theorem tiersOf_length (r : Rs) (n : Nat) : (tiersOf r n).length = n := by simp [tiersOf]
/-- The plan's cells. -/
abbrev planK (a0 : Int) (r : Rs) (l : List Nat) : Array Value := planC a0 ((valsOf r l).2 0) ((valsOf r l).2 1) ((valsOf r l).2 2) ((valsOf r l).2 3) ((valsOf r l).2 4) none 0 0
theorem planK_put (a0 : Int) (r : Rs) (l : List Nat) (i : Nat) (hi : i < 5) : (planK a0 r l).setIfInBounds (i + 1) (.int .i64 (r.nth l.length)) = planK a0 r (l ++ [i]) := by
  unfold planK
  rw [valsOf_snoc]
  unfold stepF
  rw [valsOf_fst]
  match i, hi with
  | 0, _ => rfl
  | 1, _ => rfl
  | 2, _ => rfl
  | 3, _ => rfl
  | 4, _ => rfl
def PK (w W : World) (q0 rb g p D L0 : Nat) (P : Array Value) (v : Value) (xs : List S39) : Prop :=
  W.heap[q0]? = some (Obj.cells #[.int .u32 0, .int .i64 0, .int .i64 0, .int .i64 0, .int .i64 0, .int .i64 0, .slice none 0 0] 25 (0, 0)) ∧ Boxed W rb 59 (.pointer (some ⟨g, 0, none⟩)) ∧ W.heap[p]? = some (Obj.cells P 25 (0, 0)) ∧ W.heap[D]? = some (Obj.deferred (some [])) ∧ Below q0 w W ∧ L0 ≤ W.heap.size ∧ Kd.R k39 39 W L0 (fun _ => True) v xs
def PN (q0 rb g p D L0 : Nat) : Prop := q0 < g ∧ g < rb ∧ rb < p ∧ p < L0 ∧ L0 ≤ D
theorem PK.step {w W W' : World} {q0 rb g p D L0 : Nat} {P : Array Value} {v : Value} {xs : List S39} (h : PK w W q0 rb g p D L0 P v xs) (hs : W.heap.size ≤ W'.heap.size) (hk : ∀ k, k < W.heap.size → k ≠ g → W'.heap[k]? = W.heap[k]?) (hb : Below q0 W W') (hn : PN q0 rb g p D L0) : PK w W' q0 rb g p D L0 P v xs := by
  obtain ⟨h1, h2, h3, h4, h5, h6, h7⟩ := h
  obtain ⟨n1, n2, n3, n4, n5⟩ := hn
  have hl : ∀ {k : Nat} {o : Obj}, W.heap[k]? = some o → k < W.heap.size := fun h => (Array.getElem?_eq_some_iff.1 h).1
  exact ⟨(hk q0 (hl h1) (by omega)).trans h1, (hk rb h2.lt (by omega)).trans h2, (hk p (hl h3) (by omega)).trans h3, (hk D (hl h4) (by omega)).trans h4, h5.trans hb, Nat.le_trans h6 hs,
    Kd.R_mono (Kd.R_step (Kd.R_bound h7) (fun k hk2 hlt => hk k hlt (by have := hk2.2.1; omega))) (fun _ _ => trivial)⟩
theorem PK.grown {w W W' : World} {q0 rb g p D L0 : Nat} {P : Array Value} {v : Value} {xs : List S39} (h : PK w W q0 rb g p D L0 P v xs) (hg : W.grownBy W' (some g)) (hn : PN q0 rb g p D L0) : PK w W' q0 rb g p D L0 P v xs :=
  h.step hg.size (fun k hk hne => hg.block k hk (fun e => by injection e with e; omega)) ((Below.refl q0 W).grown hg (by have := h.2.2.2.2.2.1; obtain ⟨n1, n2, n3, n4, n5⟩ := hn; omega) (fun k e => by injection e with e; obtain ⟨n1, _⟩ := hn; omega)) hn
theorem PK.below {w W W' : World} {q0 rb g p D L0 : Nat} {P : Array Value} {v : Value} {xs : List S39} (h : PK w W q0 rb g p D L0 P v xs) (hb : Below W.heap.size W W') (hn : PN q0 rb g p D L0) : PK w W' q0 rb g p D L0 P v xs :=
  h.step hb.size (fun k hk _ => hb.block k hk) (below_weak_ hb (by have := h.2.2.2.2.2.1; obtain ⟨n1, n2, n3, n4, n5⟩ := hn; omega)) hn
/-- A tier is put behind, in the plan's cells too. -/
theorem PK.put {w W W' : World} {q0 rb g p D L0 : Nat} {a0 a1 a2 a3 a4 a5 : Int} {v v' : Value} {A : Option Addr} {n c : Nat} {xs xs' : List S39} (h : PK w W q0 rb g p D L0 (planC a0 a1 a2 a3 a4 a5 A n c) v xs)
    (hr : Kd.R k39 39 W' L0 (fun _ => True) v' xs') (hb : Below L0 W W') (hg : W.grownBy W' v.ownBlock) (hn : PN q0 rb g p D L0) {A' : Option Addr} {n' c' : Nat} (e : v' = .slice A' n' c') :
    PK w (W'.setCell ⟨p, 6, none⟩ v') q0 rb g p D L0 (planC a0 a1 a2 a3 a4 a5 A' n' c') v' xs' := by
  obtain ⟨h1, h2, h3, h4, h5, h6, h7⟩ := h
  obtain ⟨n1, n2, n3, n4, n5⟩ := hn
  have hD : W'.heap[D]? = some (Obj.deferred (some [])) := (hg.block D (Array.getElem?_eq_some_iff.1 h4).1 (fun e => by
    have := (Kd.R_bound h7).1 D e.symm
    obtain ⟨_, _, _, q, _, cells, hc⟩ := this
    rw [h4] at hc
    cases hc)).trans h4
  have ho : ∀ k, k ≠ p → (W'.setCell ⟨p, 6, none⟩ v').heap[k]? = W'.heap[k]? := fun k hk => Below.heap_setCell W' ⟨p, 6, none⟩ v' k hk
  refine ⟨(ho q0 (by omega)).trans ((hb.block q0 (by omega)).trans h1), (ho rb (by omega)).trans ((hb.block rb (by omega)).trans h2), ?_, (ho D (by omega)).trans hD, (h5.trans (below_weak_ hb (by omega))).setCell (by show q0 ≤ p; omega) _, ?_, ?_⟩
  · subst e
    exact blk_put ((hb.block p (by omega)).trans h3) 6 _ rfl
  · rw [World.size_setCell]; exact Nat.le_trans h6 hb.size
  · exact Kd.R_mono (Kd.R_far (Kd.R_bound hr) (p := ⟨p, 6, none⟩) (fun k hk => by have := hk.2.1; show k ≠ p; omega) _) (fun _ _ => trivial)
abbrev W7 (W : World) (q : Nat) (v0 v1 v2 v3 v4 v5 v6 : Value) : World := (((((((W.setCell ⟨q, 0, none⟩ v0).setCell ⟨q, 1, none⟩ v1).setCell ⟨q, 2, none⟩ v2).setCell ⟨q, 3, none⟩ v3).setCell ⟨q, 4, none⟩ v4).setCell ⟨q, 5, none⟩ v5).setCell ⟨q, 6, none⟩ v6)
theorem W7_put {W : World} {q t : Nat} {x0 x1 x2 x3 x4 x5 x6 : Value} (h : W.heap[q]? = some (Obj.cells #[x0, x1, x2, x3, x4, x5, x6] t (0, 0))) (v0 v1 v2 v3 v4 v5 v6 : Value) : (W7 W q v0 v1 v2 v3 v4 v5 v6).heap[q]? = some (Obj.cells #[v0, v1, v2, v3, v4, v5, v6] t (0, 0)) := by
  unfold W7
  have h0 := blk_put h 0 v0 (rfl : _ = #[v0, x1, x2, x3, x4, x5, x6])
  generalize W.setCell ⟨q, 0, none⟩ v0 = W1 at *
  have h1 := blk_put h0 1 v1 (rfl : _ = #[v0, v1, x2, x3, x4, x5, x6])
  generalize W1.setCell ⟨q, 1, none⟩ v1 = W2 at *
  have h2 := blk_put h1 2 v2 (rfl : _ = #[v0, v1, v2, x3, x4, x5, x6])
  generalize W2.setCell ⟨q, 2, none⟩ v2 = W3 at *
  have h3 := blk_put h2 3 v3 (rfl : _ = #[v0, v1, v2, v3, x4, x5, x6])
  generalize W3.setCell ⟨q, 3, none⟩ v3 = W4 at *
  have h4 := blk_put h3 4 v4 (rfl : _ = #[v0, v1, v2, v3, v4, x5, x6])
  generalize W4.setCell ⟨q, 4, none⟩ v4 = W5 at *
  have h5 := blk_put h4 5 v5 (rfl : _ = #[v0, v1, v2, v3, v4, v5, x6])
  generalize W5.setCell ⟨q, 5, none⟩ v5 = W6 at *
  exact blk_put h5 6 v6 rfl
theorem W7_ko (W : World) (q : Nat) (v0 v1 v2 v3 v4 v5 v6 : Value) : KeepsOthers W (W7 W q v0 v1 v2 v3 v4 v5 v6) := by
  unfold W7
  have h0 := KeepsOthers.setCell W ⟨q, 0, none⟩ v0
  generalize W.setCell ⟨q, 0, none⟩ v0 = W1 at *
  have h1 := h0.trans (KeepsOthers.setCell W1 ⟨q, 1, none⟩ v1)
  generalize W1.setCell ⟨q, 1, none⟩ v1 = W2 at *
  have h2 := h1.trans (KeepsOthers.setCell W2 ⟨q, 2, none⟩ v2)
  generalize W2.setCell ⟨q, 2, none⟩ v2 = W3 at *
  have h3 := h2.trans (KeepsOthers.setCell W3 ⟨q, 3, none⟩ v3)
  generalize W3.setCell ⟨q, 3, none⟩ v3 = W4 at *
  have h4 := h3.trans (KeepsOthers.setCell W4 ⟨q, 4, none⟩ v4)
  generalize W4.setCell ⟨q, 4, none⟩ v4 = W5 at *
  have h5 := h4.trans (KeepsOthers.setCell W5 ⟨q, 5, none⟩ v5)
  generalize W5.setCell ⟨q, 5, none⟩ v5 = W6 at *
  exact h5.trans (KeepsOthers.setCell W6 ⟨q, 6, none⟩ v6)
theorem W7_below {n : Nat} {w W : World} (h : Below n w W) {q : Nat} (hq : n ≤ q) (v0 v1 v2 v3 v4 v5 v6 : Value) : Below n w (W7 W q v0 v1 v2 v3 v4 v5 v6) := by
  unfold W7
  have h0 := h.setCell (p := ⟨q, 0, none⟩) hq v0
  generalize W.setCell ⟨q, 0, none⟩ v0 = W1 at *
  have h1 := h0.setCell (p := ⟨q, 1, none⟩) hq v1
  generalize W1.setCell ⟨q, 1, none⟩ v1 = W2 at *
  have h2 := h1.setCell (p := ⟨q, 2, none⟩) hq v2
  generalize W2.setCell ⟨q, 2, none⟩ v2 = W3 at *
  have h3 := h2.setCell (p := ⟨q, 3, none⟩) hq v3
  generalize W3.setCell ⟨q, 3, none⟩ v3 = W4 at *
  have h4 := h3.setCell (p := ⟨q, 4, none⟩) hq v4
  generalize W4.setCell ⟨q, 4, none⟩ v4 = W5 at *
  have h5 := h4.setCell (p := ⟨q, 5, none⟩) hq v5
  generalize W5.setCell ⟨q, 5, none⟩ v5 = W6 at *
  exact h5.setCell (p := ⟨q, 6, none⟩) hq v6
theorem W7_other (W : World) (q : Nat) (v0 v1 v2 v3 v4 v5 v6 : Value) (k : Nat) (hk : k ≠ q) : (W7 W q v0 v1 v2 v3 v4 v5 v6).heap[k]? = W.heap[k]? := by
  unfold W7
  rw [Below.heap_setCell _ _ _ _ (show k ≠ q from hk), Below.heap_setCell _ _ _ _ (show k ≠ q from hk), Below.heap_setCell _ _ _ _ (show k ≠ q from hk), Below.heap_setCell _ _ _ _ (show k ≠ q from hk), Below.heap_setCell _ _ _ _ (show k ≠ q from hk), Below.heap_setCell _ _ _ _ (show k ≠ q from hk), Below.heap_setCell _ _ _ _ (show k ≠ q from hk)]
/-- What Get answers: a plan and an error. -/
def pget (l : List Int) : Int × Int × Int × Int × Int × Int × List S39 × Int :=
  let id := (⟨l, false⟩ : Rs).uint.1
  let r := (⟨l, false⟩ : Rs).uint.2
  if 4294967295 < id ∨ r.nth 5 < 0 ∨ 4 < r.nth 5 then (0, 0, 0, 0, 0, 0, [], 21)
  else if (r.skip (6 + 2 * (r.nth 5).toNat)).done = 0 ∧ pchk id (r.nth 0) (r.nth 1) (r.nth 2) (r.nth 3) (r.nth 4) (tiersOf r (r.nth 5).toNat) = true then (id, r.nth 0, r.nth 1, r.nth 2, r.nth 3, r.nth 4, tiersOf r (r.nth 5).toNat, 0)
  else (0, 0, 0, 0, 0, 0, [], 21)
def GetIsP (w w' : World) (e : Ending) (g : Int × Int × Int × Int × Int × Int × List S39 × Int) : Prop :=
  ∃ v : Value, e = .returned (.tuple #[.agg #[.int .u32 g.1, .int .i64 g.2.1, .int .i64 g.2.2.1, .int .i64 g.2.2.2.1, .int .i64 g.2.2.2.2.1, .int .i64 g.2.2.2.2.2.1, v], .int .i64 g.2.2.2.2.2.2.2]) ∧ Kd.R k39 39 w' w.heap.size (fun _ => True) v g.2.2.2.2.2.2.1 ∧ Below w.heap.size w w'
set_option maxRecDepth 100000 in
set_option maxHeartbeats 3200000 in
theorem plan_Get_go (A : Option Addr) (c : Nat) (l : List Int) (w : World) (hC : Kd.C (Kd.int .u8) w A l.length l) (hb : ∀ x ∈ l, IsByte x) (hm : l.length ≤ 140737488354000) :
    Calls Try.prog 97 #[.slice A l.length c] w fun e w' => GetIsP w w' e (pget l) := by
  have kn := Aside0.mk (New_calls A c l _ (Kd.C_below hC (below_alloc (Below.refl _ _) (.cells #[.int .u32 0, .int .i64 0, .int .i64 0, .int .i64 0, .int .i64 0, .int .i64 0, .slice none 0 0] 25))) hb (by omega))
  clear hC
  refine (callsIn_wide (n := 5)).1 ?_
  refine callsIn_of_wp_marks Try.func97 rfl trivial ?_ rfl
  simp only [Try.ntmps97, List.size_toArray, List.length_cons, List.length_nil, Nat.reduceAdd, Nat.reduceSub, Array.replicate_succ, Array.replicate_zero, List.push_toArray, List.append_toArray, List.nil_append, List.cons_append]
  gi_wp2_with fail
  refine ⟨trivial, callsIn_wide.2 ?_⟩
  refine kn.out.mono ?_
  rintro e w1 ⟨g, rfl, hr1, hb1⟩
  have ku := Aside0.mk (Uint_calls g _ _ (w1.alloc (.cells #[.pointer (some ⟨g, 0, none⟩)] 59)) (RdrAt.alloc hr1 _) (by show l.length ≤ _; omega))
  have hgl : g < w1.heap.size := by obtain ⟨_, _, h1, _⟩ := hr1; exact h1.lt
  have hBg : w.heap.size + 1 ≤ g := by obtain ⟨_, _, _, _, _, _, h5⟩ := hr1; simpa using h5.1
  have HQ := Aside0.mk ((Blk.new_ (W := w) (o := .cells #[.int .u32 0, .int .i64 0, .int .i64 0, .int .i64 0, .int .i64 0, .int .i64 0, .slice none 0 0] 25)).below hb1)
  have HB1 := Aside0.mk (below_step (below_alloc (Below.refl _ w) (.cells #[.int .u32 0, .int .i64 0, .int .i64 0, .int .i64 0, .int .i64 0, .int .i64 0, .slice none 0 0] 25)) hb1)
  have HX1 := Aside0.mk (Boxed.new w1 59 (.pointer (some ⟨g, 0, none⟩)))
  clear hb1 hr1 kn
  gi_wp2_with fail
  refine ⟨trivial, callsIn_wide.2 ?_⟩
  refine ku.out.mono ?_
  rintro e w2 ⟨rfl, hr2, hg2⟩
  clear ku
  gi_wp2_with fail
  refine ⟨trivial, ?_⟩
  refine (numbers_in _ _ _).mono ?_
  rintro e w3 ⟨rfl, rfl⟩
  gi_wp2_with fail
  rw [World.size_alloc] at hr2
  obtain ⟨q0, hq0⟩ : ∃ q, w.heap.size = q := ⟨_, rfl⟩
  obtain ⟨rb, hrb⟩ : ∃ q, w1.heap.size = q := ⟨_, rfl⟩
  obtain ⟨p, hp⟩ : ∃ q, w2.heap.size = q := ⟨_, rfl⟩
  obtain ⟨⟨id, R1⟩, hid⟩ : ∃ x, (⟨l, false⟩ : Rs).uint = x := ⟨_, rfl⟩
  rw [hid] at hr2 ⊢
  dsimp only at hr2 ⊢
  obtain ⟨a0, ha0⟩ : ∃ a, id % 4294967296 = a := ⟨_, rfl⟩
  rw [ha0]
  rw [hq0] at hr2 hBg HQ HB1 ⊢
  rw [hrb] at hr2 hgl HX1 ⊢
  have hrbp : rb < p := by
    have := hg2.size
    rw [World.size_alloc] at this
    omega
  have hQ2 : w2.heap[q0]? = _ := (hg2.block q0 (by simp; omega) (fun e => by injection e with e; omega)).trans (HQ.out.alloc (o' := .cells #[.pointer (some ⟨g, 0, none⟩)] 59)).out
  have hX2 : Boxed w2 rb 59 (.pointer (some ⟨g, 0, none⟩)) := HX1.out.kept hg2 (fun e => by injection e with e; omega)
  have hB2 : Below q0 w w2 := ((HB1.out).alloc (by omega) _).grown hg2 (by simp; omega) (fun k e => by injection e with e; omega)
  obtain ⟨B, hBB⟩ : ∃ B : Nat → Prop, (fun k => q0 + 1 ≤ k ∧ k < rb) = B := ⟨_, rfl⟩
  rw [hBB] at hr2
  have hBk : ∀ k, B k → q0 < k ∧ k < rb := fun k hk => by rw [← hBB] at hk; exact ⟨by omega, hk.2⟩
  clear hBB hg2 HQ HX1 HB1
  rw [hp]
  obtain ⟨wL, hwL⟩ : ∃ W, ((w2.alloc (.cells (planK a0 R1 []) 25)).alloc (.cells #[.pointer (some ⟨p, 0, none⟩)] 120)) = W := ⟨_, rfl⟩
  have bQ : wL.heap[q0]? = some (Obj.cells #[.int .u32 0, .int .i64 0, .int .i64 0, .int .i64 0, .int .i64 0, .int .i64 0, .slice none 0 0] 25 (0, 0)) := by rw [← hwL]; exact (Blk.alloc (Blk.alloc (⟨hQ2⟩ : Blk w2 q0 _))).out
  have bX : Boxed wL rb 59 (.pointer (some ⟨g, 0, none⟩)) := by rw [← hwL]; exact (hX2.alloc _).alloc _
  have bR : RdrS wL g B R1 := by rw [← hwL]; exact RdrAt.alloc (RdrAt.alloc hr2 _) _
  have bP : wL.heap[p]? = some (Obj.cells (planK a0 R1 []) 25 (0, 0)) := by rw [← hwL]; exact (Blk.alloc (Blk.new hp.symm)).out
  have bN : Boxed wL (p + 1) 120 (.pointer (some ⟨p, 0, none⟩)) := by
    rw [← hwL]
    have := Boxed.new (w2.alloc (.cells (planK a0 R1 []) 25)) 120 (.pointer (some ⟨p, 0, none⟩))
    rw [World.size_alloc, hp] at this
    exact this
  have hB1 : Below q0 w wL := by rw [← hwL]; exact (hB2.alloc (by omega) _).alloc (by simp; omega) _
  have hsz : wL.heap.size = p + 2 := by rw [← hwL]; simp; omega
  rw [show ((w2.alloc (.cells (planC a0 0 0 0 0 0 none 0 0) 25)).alloc (.cells #[.pointer (some ⟨p, 0, none⟩)] 120)) = wL from hwL]
  clear hwL hr2 hQ2 hX2 hB2
  have hR1l : R1.xs.length ≤ 140737488354000 := by
    have h : R1 = (⟨l, false⟩ : Rs).uint.2 := by rw [hid]
    have := int_len ⟨l, false⟩
    rw [h]
    have e : (⟨l, false⟩ : Rs).uint.2 = (⟨l, false⟩ : Rs).int.2 := by
      unfold Rs.uint Rs.int
      cases ((⟨l, false⟩ : Rs).take 8) with
      | mk a b => cases a <;> rfl
    rw [e]
    exact Nat.le_trans this hm
  obtain ⟨L0, hL0⟩ : ∃ L, wL.heap.size = L := ⟨_, rfl⟩
  refine wpIn_rangeFunc_ownF rfl (by omega) (gf := 99) (lb := #[.pointer (some ⟨p + 1, 0, none⟩)]) rfl trivial (enters_of Try.func99 (by kernel_rfl) rfl)
    (numbers_stops _ (by omega) (p + 1) p wL bN) KpN.trans (fun W l o o' _ h hc _ => kpn_b W l o o' h hc) (Below.refl _ _) (fun _ => rfl)
    (fun pre W => pre.length ≤ 5 ∧ W.heap[q0]? = some (Obj.cells #[.int .u32 0, .int .i64 0, .int .i64 0, .int .i64 0, .int .i64 0, .int .i64 0, .slice none 0 0] 25 (0, 0)) ∧ Boxed W rb 59 (.pointer (some ⟨g, 0, none⟩)) ∧ RdrS W g B (R1.skip pre.length) ∧ W.heap[p]? = some (Obj.cells (planK a0 R1 (pre.map Subtype.val)) 25 (0, 0)) ∧ Below q0 w W)
    (fun _ _ _ => False)
    (fun pre W W' row ⟨h0, h1, h2, h3, h4, h5⟩ hg hr => ⟨h0, blk_own h1 rfl hg hr, blk_own h2 rfl hg hr, RdrAt.keep h3 (fun k hk hlt => hg.block k hlt (fun e => by have := (hr k e.symm).1; have := hBk k hk; omega)), blk_own h4 rfl hg hr, h5.grown hg (by have := h5.size; omega) (fun k e => by have := (hr k e).1; omega)⟩)
    (fun _ _ _ _ _ hs _ _ => hs)
    ⟨by simp, bQ, bX, bR, bP, hB1⟩
    (fun x => { tmps := #[.slice A l.length c, undef, .pointer (some ⟨q0, 0, none⟩), .int .i64 0, .pointer (some ⟨rb, 0, none⟩), .int .u64 id, .pointer (some ⟨p, 0, none⟩), .pointer (some ⟨p, x.1 + 1, none⟩), undef, .slice A l.length c, .pointer (some ⟨g, 0, none⟩), .pointer (some ⟨g, 0, none⟩), .int .u64 id, .int .u64 id, .int .u32 a0, .agg #[.int .u32 a0, .int .i64 0, .int .i64 0, .int .i64 0, .int .i64 0, .int .i64 0, .slice none 0 0], .func (.func 99) #[] #[.pointer (some ⟨p + 1, 0, none⟩)], .pointer (some ⟨p, x.1 + 1, none⟩), .int .i64 (mostOf x.1), undef, undef, undef, undef, undef, undef, undef, undef, undef, undef, undef, undef, undef, undef, undef, undef, undef, undef, undef, undef, undef, undef, undef, undef, undef, undef, undef, undef, undef, undef, undef, undef, undef, undef, undef, undef, undef, undef, undef, undef, undef], defers := [] }) ?assign ?body ?done ?stop
  case assign =>
    intro l x W K hK
    gi_wp2
    exact hK
  case body =>
    rintro l' pre ⟨i, hi5⟩ W ⟨h0, h1, h2, h3, h4, h5⟩ hlt
    have c2 := h2.cell
    have hskl := skip_len R1 pre.length
    have ki := Aside0.mk (Int_calls g B (R1.skip pre.length) W h3 (by omega))
    have hpl : p < W.heap.size := (Array.getElem?_eq_some_iff.1 h4).1
    have hB : B g := by obtain ⟨_, _, _, _, _, _, h⟩ := h3; exact h
    have hput := planK_put a0 R1 (pre.map Subtype.val) i hi5
    rw [List.length_map] at hput
    have hnth : (R1.skip pre.length).int.1 = R1.nth pre.length := rfl
    rw [hnth] at ki
    obtain ⟨v, hv⟩ : ∃ v, R1.nth pre.length = v := ⟨_, rfl⟩
    rw [hv] at ki hput
    have H1 := Aside0.mk h1
    have H2 := Aside0.mk h2
    have H3 := Aside0.mk h3
    have H4 := Aside0.mk h4
    have H5 := Aside0.mk h5
    clear h1 h2 h3 h4 h5 hv hnth hskl
    dsimp only
    gi_wp2_with (refine ⟨trivial, ?_⟩; gi_at_call 28; refine (CallsIn.inRound l' (callsIn_wide.2 ki.out)).mono ?_; rintro e w4 ⟨rfl, hr4, hg4⟩; have HR4 := Aside0.mk hr4; have HG4 := Aside0.mk hg4; have hp4 := (hg4.block p hpl (fun e => by injection e with e; omega)).trans H4.out; have g4 : w4.frozen? ⟨p, i + 1, none⟩ = false := blk_frozen hp4 (i + 1); have c4 := plan_num hp4 i hi5; have HP4 := Aside0.mk hp4; clear hr4 hg4 hp4 ki)
    have hR : RdrS (w4.setCell ⟨p, i + 1, none⟩ (.int .i64 v)) g B (R1.skip (pre.length + 1)) := RdrAt.keep HR4.out (fun k hk hlt => Below.heap_setCell w4 ⟨p, i + 1, none⟩ _ k (by show k ≠ p; have := hBk k hk; omega))
    have hgo : ∀ k o, (some g : Option Nat) = some k → W.heap[k]? = some o → ∃ c t fr, o = Obj.cells c t fr ∧ t ≠ 120 ∧ t ≠ 113 := fun k o e ho => by
      injection e with e
      subst e
      obtain ⟨A, c, h, _⟩ := H3.out
      rw [h.out] at ho
      injection ho with ho
      exact ⟨_, _, _, ho.symm, by decide, by decide⟩
    refine ⟨(KeepsOthers.of_grownBy HG4.out (fun j o ej hj => by obtain ⟨c, t, fr, e, _⟩ := hgo j o ej hj; subst e; rfl)).trans (KeepsOthers.setCell _ _ _), (kpn_grown HG4.out (fun k e o ho => hgo k o e ho)).trans (kpn_set _ HP4.out (by decide) (by decide)), ?_, ?_, ?_, ?_, ?_, ?_⟩
    · simp; omega
    · exact (Below.heap_setCell w4 ⟨p, i + 1, none⟩ _ q0 (by show q0 ≠ p; omega)).trans ((HG4.out.block q0 (Array.getElem?_eq_some_iff.1 H1.out).1 (fun e => by injection e with e; omega)).trans H1.out)
    · exact (Below.heap_setCell w4 ⟨p, i + 1, none⟩ _ rb (by show rb ≠ p; omega)).trans (H2.out.kept HG4.out (fun e => by injection e with e; omega))
    · rw [List.length_append]; exact hR
    · rw [List.map_append]; exact blk_put HP4.out (i + 1) _ hput
    · exact (H5.out.grown HG4.out (by have := H5.out.size; omega) (fun k e => by injection e with e; omega)).setCell (by show q0 ≤ p; omega) _
  case done =>
    rintro D ys W hD hys ⟨h0, h1, h2, h3, h4, h5⟩ hK
    have hyl : ys.length = 5 := by have := congrArg List.length hys; simpa using this
    rw [hyl] at h3
    rw [hys] at h4
    have hskl := skip_len R1 5
    have ki := Aside0.mk (Int_calls g B (R1.skip 5) W h3 (by omega))
    have c2 := h2.cell
    have hB : B g := by obtain ⟨_, _, _, _, _, _, h⟩ := h3; exact h
    have hDW : D < W.heap.size := (Array.getElem?_eq_some_iff.1 hK).1
    have hgD : D ≠ g := by have := hBk g hB; omega
    rw [show (R1.skip 5).int.1 = R1.nth 5 from rfl] at ki
    obtain ⟨N, hN⟩ : ∃ N, R1.nth 5 = N := ⟨_, rfl⟩
    rw [hN] at ki
    have H1 := Aside0.mk h1
    have H2 := Aside0.mk h2
    have H3 := Aside0.mk h3
    have H4 := Aside0.mk h4
    have H5 := Aside0.mk h5
    have HK := Aside0.mk hK
    clear h1 h2 h3 h4 h5 hK hskl
    have hgo : ∀ j o, (some g : Option Nat) = some j → W.heap[j]? = some o → o.isCells = true := fun k o e ho => by
      injection e with e
      subst e
      obtain ⟨A, c, h, _⟩ := H3.out
      rw [h.out] at ho
      injection ho with ho
      rw [← ho]; rfl
    have HGO := Aside0.mk hgo
    have hbadd : (4294967295 < id ∨ N < 0 ∨ 4 < N) ∨ (¬ 4294967295 < id ∧ ¬ N < 0 ∧ ¬ 4 < N) := by omega
    clear hgo
    rcases hbadd with hbad | ⟨hi1, hN0, hN4⟩
    · have HNO : Aside0 (pget l = (0, 0, 0, 0, 0, 0, [], 21)) := ⟨by
        unfold pget
        rw [hid]
        dsimp only
        rw [hN, if_pos hbad]⟩
      have hd : decide (4294967295 < id) = true ∨ (decide (4294967295 < id) = false ∧ decide (N < 0) = true) ∨ (decide (4294967295 < id) = false ∧ decide (N < 0) = false ∧ decide (4 < N) = true) := by
        simp only [decide_eq_true_eq, decide_eq_false_iff_not]; omega
      clear hbad
      rcases hd with d1 | ⟨d1, d2⟩ | ⟨d1, d2, d3⟩
      all_goals
        gi_wp2_with (refine ⟨trivial, ?_⟩; gi_at_call 28; refine (callsIn_wide.2 ki.out).mono ?_; rintro e w4 ⟨rfl, hr4, hg4⟩; have HG4 := Aside0.mk hg4; have HQ4 := Aside0.mk ((hg4.block q0 (Array.getElem?_eq_some_iff.1 H1.out).1 (fun e => by injection e with e; omega)).trans H1.out); have fz := fun j => blk_frozen HQ4.out j; have z0 := (cell_of_row w4 q0 0 _ _ _ HQ4.out).trans (rfl : _ = some (Value.int .u32 0)); have z1 := (cell_of_row w4 q0 1 _ _ _ HQ4.out).trans (rfl : _ = some (Value.int .i64 0)); have z2 := (cell_of_row w4 q0 2 _ _ _ HQ4.out).trans (rfl : _ = some (Value.int .i64 0)); have z3 := (cell_of_row w4 q0 3 _ _ _ HQ4.out).trans (rfl : _ = some (Value.int .i64 0)); have z4 := (cell_of_row w4 q0 4 _ _ _ HQ4.out).trans (rfl : _ = some (Value.int .i64 0)); have z5 := (cell_of_row w4 q0 5 _ _ _ HQ4.out).trans (rfl : _ = some (Value.int .i64 0)); have z6 := (cell_of_row w4 q0 6 _ _ _ HQ4.out).trans (rfl : _ = some (Value.slice none 0 0)); clear hr4 hg4 ki)
        have HB4 := Aside0.mk (H5.out.grown HG4.out (by have := H5.out.size; omega) (fun k e => by injection e with e; omega))
        have HK4 := Aside0.mk ((KeepsOthers.of_grownBy HG4.out HGO.out).same D _ HK.out rfl)
        have hK' := (W7_ko w4 q0 (.int .u32 0) (.int .i64 0) (.int .i64 0) (.int .i64 0) (.int .i64 0) (.int .i64 0) (.slice none 0 0)).same D _ HK4.out rfl
        have e3 := W7_put HQ4.out (.int .u32 0) (.int .i64 0) (.int .i64 0) (.int .i64 0) (.int .i64 0) (.int .i64 0) (.slice none 0 0)
        have hbw := W7_below HB4.out (Nat.le_refl q0) (.int .u32 0) (.int .i64 0) (.int .i64 0) (.int .i64 0) (.int .i64 0) (.int .i64 0) (.slice none 0 0)
        unfold W7 at hK' e3 hbw
        generalize (((((((w4.setCell ⟨q0, 0, none⟩ (.int .u32 0)).setCell ⟨q0, 1, none⟩ (.int .i64 0)).setCell ⟨q0, 2, none⟩ (.int .i64 0)).setCell ⟨q0, 3, none⟩ (.int .i64 0)).setCell ⟨q0, 4, none⟩ (.int .i64 0)).setCell ⟨q0, 5, none⟩ (.int .i64 0)).setCell ⟨q0, 6, none⟩ (.slice none 0 0)) = Wd at e3 hK' hbw ⊢
        refine ⟨by simp, .inl ⟨_, _, rfl, run_takeDeferred hK', ?_⟩⟩
        have f0 := cell_kept ((cell_of_row Wd q0 0 _ _ _ e3).trans (rfl : _ = some (Value.int .u32 0))) (grownBy_putObj' _ D (.deferred none)) (fun r e => by cases e; exact ⟨_, hK', rfl⟩)
        have f1 := cell_kept ((cell_of_row Wd q0 1 _ _ _ e3).trans (rfl : _ = some (Value.int .i64 0))) (grownBy_putObj' _ D (.deferred none)) (fun r e => by cases e; exact ⟨_, hK', rfl⟩)
        have f2 := cell_kept ((cell_of_row Wd q0 2 _ _ _ e3).trans (rfl : _ = some (Value.int .i64 0))) (grownBy_putObj' _ D (.deferred none)) (fun r e => by cases e; exact ⟨_, hK', rfl⟩)
        have f3 := cell_kept ((cell_of_row Wd q0 3 _ _ _ e3).trans (rfl : _ = some (Value.int .i64 0))) (grownBy_putObj' _ D (.deferred none)) (fun r e => by cases e; exact ⟨_, hK', rfl⟩)
        have f4 := cell_kept ((cell_of_row Wd q0 4 _ _ _ e3).trans (rfl : _ = some (Value.int .i64 0))) (grownBy_putObj' _ D (.deferred none)) (fun r e => by cases e; exact ⟨_, hK', rfl⟩)
        have f5 := cell_kept ((cell_of_row Wd q0 5 _ _ _ e3).trans (rfl : _ = some (Value.int .i64 0))) (grownBy_putObj' _ D (.deferred none)) (fun r e => by cases e; exact ⟨_, hK', rfl⟩)
        have f6 := cell_kept ((cell_of_row Wd q0 6 _ _ _ e3).trans (rfl : _ = some (Value.slice none 0 0))) (grownBy_putObj' _ D (.deferred none)) (fun r e => by cases e; exact ⟨_, hK', rfl⟩)
        refine ⟨.tuple #[.agg #[.int .u32 0, .int .i64 0, .int .i64 0, .int .i64 0, .int .i64 0, .int .i64 0, .slice none 0 0], .int .i64 21], ?_, ?_⟩
        · simp [results, Try.results97, go_sem, f0, f1, f2, f3, f4, f5, f6]
        · rw [HNO.out]
          refine ⟨.slice none 0 0, rfl, Kd.R_nil _ _ _ _ _, ?_⟩
          rw [hq0]
          exact hbw.trans (belowK_b (n₀ := q0) (w := wL) (by omega) Wd D _ (.deferred none) (by omega) hK' rfl rfl)
    · have d1 : decide (4294967295 < id) = false := decide_eq_false hi1
      have d2 : decide (N < 0) = false := decide_eq_false hN0
      have d3 : decide (4 < N) = false := decide_eq_false hN4
      gi_wp2_with (refine ⟨trivial, ?_⟩; gi_at_call 28; refine (callsIn_wide.2 ki.out).mono ?_; rintro e w4 ⟨rfl, hr4, hg4⟩; have HG4 := Aside0.mk hg4; have HR4 := Aside0.mk hr4; clear hr4 hg4 ki)
      obtain ⟨n, hn⟩ : ∃ n : Nat, N = n := ⟨N.toNat, by omega⟩
      subst hn
      have hn4 : n ≤ 4 := by omega
      have HPN : Aside0 (PN q0 rb g p D L0) := ⟨⟨by omega, hgl, hrbp, by omega, by omega⟩⟩
      have HK0 : Aside0 (PK w w4 q0 rb g p D L0 (planC a0 (R1.nth 0) (R1.nth 1) (R1.nth 2) (R1.nth 3) (R1.nth 4) none 0 0) (.slice none 0 0) (tiersOf R1 0)) :=
        ⟨PK.grown ⟨H1.out, H2.out, H4.out, HK.out, H5.out, by have := hDW; omega, Kd.R_nil _ _ _ _ _⟩ HG4.out HPN.out⟩
      have HR40 : Aside0 (RdrS w4 g B (R1.skip (6 + 2 * 0))) := HR4
      clear H1 H2 H3 H4 H5 HK HG4 HR4 HGO c2 d1 d2 d3
      gi_loopw [37] (fun i wr => ∃ k : Nat, k ≤ n ∧ i = .int .i64 k ∧ Aside0 (RdrS wr g B (R1.skip (6 + 2 * k))) ∧ ∃ A' c', Aside0 (PK w wr q0 rb g p D L0 (planC a0 (R1.nth 0) (R1.nth 1) (R1.nth 2) (R1.nth 3) (R1.nth 4) A' k c') (.slice A' k c') (tiersOf R1 k)))
        (fun i _ => n - (intOf i).toNat)
      case atStart => exact ⟨0, Nat.zero_le _, rfl, HR40, none, 0, HK0⟩
      case round =>
        obtain ⟨k, hk, rfl, HRk, Ak, ck, HPk⟩ := hrel
        by_cases hlt : k < n
        · gi_wp2_with fail
          have hskl := skip_len R1 (6 + 2 * k)
          have hskl2 := skip_len R1 (6 + 2 * k + 1)
          have k1 := Aside0.mk (Int_calls g B (R1.skip (6 + 2 * k)) wr.drew HRk.out.drew (by omega))
          have k2 : Aside0 (∀ W : World, RdrS W g B (R1.skip (6 + 2 * k + 1)) → Calls Try.prog 28 #[.pointer (some ⟨g, 0, none⟩)] W fun e w' => e = .returned (.int .i64 (R1.nth (6 + 2 * k + 1))) ∧ RdrS w' g B (R1.skip (6 + 2 * (k + 1))) ∧ W.grownBy w' (some g)) := ⟨fun W h => Int_calls g B (R1.skip (6 + 2 * k + 1)) W h (by omega)⟩
          rw [show (R1.skip (6 + 2 * k)).int.1 = R1.nth (6 + 2 * k) from rfl] at k1
          have hst := tiersOf_snoc R1 k
          obtain ⟨f0, hf0⟩ : ∃ f, R1.nth (6 + 2 * k) = f := ⟨_, rfl⟩
          obtain ⟨f1, hf1⟩ : ∃ f, R1.nth (6 + 2 * k + 1) = f := ⟨_, rfl⟩
          rw [show 7 + 2 * k = 6 + 2 * k + 1 by omega, hf0, hf1] at hst
          rw [hf0] at k1
          rw [hf1] at k2
          have HF1 := Aside0.mk hf1
          have HST := Aside0.mk hst
          have HPd := Aside0.mk (HPk.out.below (W' := wr.drew) (below_drew (Below.refl _ _)) HPN.out)
          have c1 := HPk.out.2.1.cell
          have c6 := (cell_of_row wr p 6 _ _ _ HPk.out.2.2.1).trans (rfl : _ = some (Value.slice Ak k ck))
          have S0 : wr.drew.cell? ⟨rb, 0, none⟩ = some (.pointer (some ⟨g, 0, none⟩)) := c1
          have hlk := tiersOf_length R1 k
          clear hskl hskl2 hf0 hf1 hst
          refine wpIn_wide.2 ?_
          refine wp_region_noPanic ?_
          go_region_law (first
            | (refine Kd.R_append_step k39 (w0 := w6) L0 (by rfl) (.tmp 40) (.tmp 46) 23 39 (.agg #[(.int .i64 0), (.int .i64 0)]) 16 rfl Try.underlying23 info39 rfl (by decide) (by omega) (.slice Ak k ck) (tiersOf R1 k) (⟨f0, f1⟩ : S39) [.int .i64 f0, .int .i64 f1] (fun _ => True) (fun _ => False) rfl rfl (k39_mkM _ _ _ (⟨f0, f1⟩ : S39)) (fun _ hk => hk.elim) (fun _ _ => trivial) P6.out.2.2.2.2.2.2 (Below.refl L0 w6) P6.out.2.2.2.2.2.1 (by rw [hlk]; omega) ?_; intro v7 w7 ho hb7 hg7 hat; rw [← HST.out] at ho; obtain ⟨A7, c7, ev⟩ := Kd.R_slice ho; rw [tiersOf_length] at ev; subst ev; have HO7 := Aside0.mk ho; have HB7 := Aside0.mk hb7; have HG7 := Aside0.mk hg7; have c67 := (cell_of_row w7 p 6 _ _ _ ((hb7.block p HPN.out.2.2.2.1).trans P6.out.2.2.1)).trans (rfl : _ = some (Value.slice Ak k ck)); have g67 := blk_frozen ((hb7.block p HPN.out.2.2.2.1).trans P6.out.2.2.1) 6; clear ho hb7 hg7 hat)
            | (go_simp; go_wp2_with (first
            | (go_at_call 28; refine k1.out.mono ?_; rintro e w5 ⟨rfl, hr5, hg5⟩; have HR5 := Aside0.mk hr5; have P5 := Aside0.mk (HPd.out.grown hg5 HPN.out); have S5 := P5.out.2.1.cell; have c65 := (cell_of_row w5 p 6 _ _ _ P5.out.2.2.1).trans (rfl : _ = some (Value.slice Ak k ck)); clear hr5 hg5 k1)
            | (go_at_call 28; refine (k2.out _ HR5.out).mono ?_; rintro e w6 ⟨rfl, hr6, hg6⟩; have HR6 := Aside0.mk hr6; have P6 := Aside0.mk (P5.out.grown hg6 HPN.out);  have c66 := (cell_of_row w6 p 6 _ _ _ P6.out.2.2.1).trans (rfl : _ = some (Value.slice Ak k ck)); have hp6 : p < w6.heap.size := (Array.getElem?_eq_some_iff.1 P6.out.2.2.1).1; clear hr6 hg6 k2))))
          all_goals
            refine NoPanic.normal ?_
            gi_wp2
            go_roundw
            case rel =>
              exact ⟨k + 1, by omega, by go_num, ⟨RdrAt.keep HR6.out (fun j hj _ => (Below.heap_setCell w7 ⟨p, 6, none⟩ _ j (by show j ≠ p; have := hBk j hj; omega)).trans (HB7.out.block j (by have := hBk j hj; obtain ⟨_, _, n3, n4, _⟩ := HPN.out; omega)))⟩, A7, c7, ⟨PK.put P6.out HO7.out HB7.out HG7.out HPN.out rfl⟩⟩
            case measure => first | go_num | (simp [intOf]; omega) | (simp only [intOf]; omega)
        · obtain rfl : k = n := by omega
          have c1 := HPk.out.2.1.cell
          have hskl := skip_len R1 (6 + 2 * k)
          have kd := Aside0.mk (Done_calls g B (R1.skip (6 + 2 * k)) wr HRk.out (by omega))
          have hp0 := HPk.out.2.2.1
          have e0 := (cell_of_row wr p 0 _ _ _ hp0).trans (rfl : _ = some (Value.int .u32 a0))
          have e1 := (cell_of_row wr p 1 _ _ _ hp0).trans (rfl : _ = some (Value.int .i64 (R1.nth 0)))
          have e2 := (cell_of_row wr p 2 _ _ _ hp0).trans (rfl : _ = some (Value.int .i64 (R1.nth 1)))
          have e3 := (cell_of_row wr p 3 _ _ _ hp0).trans (rfl : _ = some (Value.int .i64 (R1.nth 2)))
          have e4 := (cell_of_row wr p 4 _ _ _ hp0).trans (rfl : _ = some (Value.int .i64 (R1.nth 3)))
          have e5 := (cell_of_row wr p 5 _ _ _ hp0).trans (rfl : _ = some (Value.int .i64 (R1.nth 4)))
          have e6 := (cell_of_row wr p 6 _ _ _ hp0).trans (rfl : _ = some (Value.slice Ak k ck))
          clear hskl hp0
          have hpos : 0 ≤ id := by
            have := (uint_lt (⟨l, false⟩ : Rs) hb).1
            rw [hid] at this
            exact this
          have haid : a0 = id := by rw [← ha0]; omega
          have HG : Aside0 (pget l = if (R1.skip (6 + 2 * k)).done = 0 ∧ pchk a0 (R1.nth 0) (R1.nth 1) (R1.nth 2) (R1.nth 3) (R1.nth 4) (tiersOf R1 k) = true then (a0, R1.nth 0, R1.nth 1, R1.nth 2, R1.nth 3, R1.nth 4, tiersOf R1 k, 0) else (0, 0, 0, 0, 0, 0, [], 21)) := ⟨by
            unfold pget
            rw [hid]
            dsimp only
            rw [hN, if_neg (by omega), haid, Int.toNat_natCast]⟩
          clear haid
          by_cases hdn : (R1.skip (6 + 2 * k)).done = 0
          · rw [hdn] at kd
            have hrd := Kd.R_reads' HPk.out.2.2.2.2.2.2
            have kc := Aside0.mk (plan_Check_go a0 (R1.nth 0) (R1.nth 1) (R1.nth 2) (R1.nth 3) (R1.nth 4) Ak ck (tiersOf R1 k) wr hrd.2.2 (by rw [tiersOf_length]; exact hrd.2.1))
            rw [tiersOf_length] at kc
            clear hrd
            obtain ⟨ok, hok⟩ : ∃ b, pchk a0 (R1.nth 0) (R1.nth 1) (R1.nth 2) (R1.nth 3) (R1.nth 4) (tiersOf R1 k) = b := ⟨_, rfl⟩
            have HDN := Aside0.mk hdn
            have HOK := Aside0.mk hok
            rw [hok] at kc
            clear hdn hok
            cases ok with
            | false =>
              have HNO : Aside0 (pget l = (0, 0, 0, 0, 0, 0, [], 21)) := ⟨by rw [HG.out, HOK.out, if_neg (by simp)]⟩
              gi_wp2_with (first
                | (refine ⟨trivial, ?_⟩; gi_at_call 31; refine (callsIn_wide.2 kd.out).mono ?_; rintro e w5 ⟨rfl, rfl⟩)
                | (refine ⟨trivial, ?_⟩; gi_at_call 79; refine (callsIn_wide.2 kc.out).mono ?_; rintro e w5 ⟨rfl, hb5⟩; have P5 := Aside0.mk (HPk.out.below hb5 HPN.out); have fz := fun j => blk_frozen P5.out.1 j; have z0 := (cell_of_row w5 q0 0 _ _ _ P5.out.1).trans (rfl : _ = some (Value.int .u32 0)); have z1 := (cell_of_row w5 q0 1 _ _ _ P5.out.1).trans (rfl : _ = some (Value.int .i64 0)); have z2 := (cell_of_row w5 q0 2 _ _ _ P5.out.1).trans (rfl : _ = some (Value.int .i64 0)); have z3 := (cell_of_row w5 q0 3 _ _ _ P5.out.1).trans (rfl : _ = some (Value.int .i64 0)); have z4 := (cell_of_row w5 q0 4 _ _ _ P5.out.1).trans (rfl : _ = some (Value.int .i64 0)); have z5 := (cell_of_row w5 q0 5 _ _ _ P5.out.1).trans (rfl : _ = some (Value.int .i64 0)); have z6 := (cell_of_row w5 q0 6 _ _ _ P5.out.1).trans (rfl : _ = some (Value.slice none 0 0)); clear hb5 kc kd))
              have hK' := (W7_ko w5 q0 (.int .u32 0) (.int .i64 0) (.int .i64 0) (.int .i64 0) (.int .i64 0) (.int .i64 0) (.slice none 0 0)).same D _ P5.out.2.2.2.1 rfl
              have e3' := W7_put P5.out.1 (.int .u32 0) (.int .i64 0) (.int .i64 0) (.int .i64 0) (.int .i64 0) (.int .i64 0) (.slice none 0 0)
              have hbw := W7_below P5.out.2.2.2.2.1 (Nat.le_refl q0) (.int .u32 0) (.int .i64 0) (.int .i64 0) (.int .i64 0) (.int .i64 0) (.int .i64 0) (.slice none 0 0)
              unfold W7 at hK' e3' hbw
              generalize (((((((w5.setCell ⟨q0, 0, none⟩ (.int .u32 0)).setCell ⟨q0, 1, none⟩ (.int .i64 0)).setCell ⟨q0, 2, none⟩ (.int .i64 0)).setCell ⟨q0, 3, none⟩ (.int .i64 0)).setCell ⟨q0, 4, none⟩ (.int .i64 0)).setCell ⟨q0, 5, none⟩ (.int .i64 0)).setCell ⟨q0, 6, none⟩ (.slice none 0 0)) = Wd at e3' hK' hbw ⊢
              refine ⟨by simp, .inl ⟨_, _, rfl, run_takeDeferred hK', ?_⟩⟩
              have f0 := cell_kept ((cell_of_row Wd q0 0 _ _ _ e3').trans (rfl : _ = some (Value.int .u32 0))) (grownBy_putObj' _ D (.deferred none)) (fun r e => by cases e; exact ⟨_, hK', rfl⟩)
              have f1 := cell_kept ((cell_of_row Wd q0 1 _ _ _ e3').trans (rfl : _ = some (Value.int .i64 0))) (grownBy_putObj' _ D (.deferred none)) (fun r e => by cases e; exact ⟨_, hK', rfl⟩)
              have f2 := cell_kept ((cell_of_row Wd q0 2 _ _ _ e3').trans (rfl : _ = some (Value.int .i64 0))) (grownBy_putObj' _ D (.deferred none)) (fun r e => by cases e; exact ⟨_, hK', rfl⟩)
              have f3 := cell_kept ((cell_of_row Wd q0 3 _ _ _ e3').trans (rfl : _ = some (Value.int .i64 0))) (grownBy_putObj' _ D (.deferred none)) (fun r e => by cases e; exact ⟨_, hK', rfl⟩)
              have f4 := cell_kept ((cell_of_row Wd q0 4 _ _ _ e3').trans (rfl : _ = some (Value.int .i64 0))) (grownBy_putObj' _ D (.deferred none)) (fun r e => by cases e; exact ⟨_, hK', rfl⟩)
              have f5 := cell_kept ((cell_of_row Wd q0 5 _ _ _ e3').trans (rfl : _ = some (Value.int .i64 0))) (grownBy_putObj' _ D (.deferred none)) (fun r e => by cases e; exact ⟨_, hK', rfl⟩)
              have f6 := cell_kept ((cell_of_row Wd q0 6 _ _ _ e3').trans (rfl : _ = some (Value.slice none 0 0))) (grownBy_putObj' _ D (.deferred none)) (fun r e => by cases e; exact ⟨_, hK', rfl⟩)
              refine ⟨.tuple #[.agg #[.int .u32 0, .int .i64 0, .int .i64 0, .int .i64 0, .int .i64 0, .int .i64 0, .slice none 0 0], .int .i64 21], ?_, ?_⟩
              · simp [results, Try.results97, go_sem, f0, f1, f2, f3, f4, f5, f6]
              · rw [HNO.out]
                refine ⟨.slice none 0 0, rfl, Kd.R_nil _ _ _ _ _, ?_⟩
                rw [hq0]
                exact hbw.trans (belowK_b (n₀ := q0) (w := wL) (by omega) Wd D _ (.deferred none) (by omega) hK' rfl rfl)
            | true =>
              have HYES : Aside0 (pget l = (a0, R1.nth 0, R1.nth 1, R1.nth 2, R1.nth 3, R1.nth 4, tiersOf R1 k, 0)) := ⟨by rw [HG.out, HOK.out, if_pos ⟨HDN.out, rfl⟩]⟩
              gi_wp2_with (first
                | (refine ⟨trivial, ?_⟩; gi_at_call 31; refine (callsIn_wide.2 kd.out).mono ?_; rintro e w5 ⟨rfl, rfl⟩)
                | (refine ⟨trivial, ?_⟩; gi_at_call 79; refine (callsIn_wide.2 kc.out).mono ?_; rintro e w5 ⟨rfl, hb5⟩; have P5 := Aside0.mk (HPk.out.below hb5 HPN.out); have fz := fun j => blk_frozen P5.out.1 j; have z0 := (cell_of_row w5 q0 0 _ _ _ P5.out.1).trans (rfl : _ = some (Value.int .u32 0)); have z1 := (cell_of_row w5 q0 1 _ _ _ P5.out.1).trans (rfl : _ = some (Value.int .i64 0)); have z2 := (cell_of_row w5 q0 2 _ _ _ P5.out.1).trans (rfl : _ = some (Value.int .i64 0)); have z3 := (cell_of_row w5 q0 3 _ _ _ P5.out.1).trans (rfl : _ = some (Value.int .i64 0)); have z4 := (cell_of_row w5 q0 4 _ _ _ P5.out.1).trans (rfl : _ = some (Value.int .i64 0)); have z5 := (cell_of_row w5 q0 5 _ _ _ P5.out.1).trans (rfl : _ = some (Value.int .i64 0)); have z6 := (cell_of_row w5 q0 6 _ _ _ P5.out.1).trans (rfl : _ = some (Value.slice none 0 0)); have y0 := (cell_of_row w5 p 0 _ _ _ P5.out.2.2.1).trans (rfl : _ = some (Value.int .u32 a0)); have y1 := (cell_of_row w5 p 1 _ _ _ P5.out.2.2.1).trans (rfl : _ = some (Value.int .i64 (R1.nth 0))); have y2 := (cell_of_row w5 p 2 _ _ _ P5.out.2.2.1).trans (rfl : _ = some (Value.int .i64 (R1.nth 1))); have y3 := (cell_of_row w5 p 3 _ _ _ P5.out.2.2.1).trans (rfl : _ = some (Value.int .i64 (R1.nth 2))); have y4 := (cell_of_row w5 p 4 _ _ _ P5.out.2.2.1).trans (rfl : _ = some (Value.int .i64 (R1.nth 3))); have y5 := (cell_of_row w5 p 5 _ _ _ P5.out.2.2.1).trans (rfl : _ = some (Value.int .i64 (R1.nth 4))); have y6 := (cell_of_row w5 p 6 _ _ _ P5.out.2.2.1).trans (rfl : _ = some (Value.slice Ak k ck)); clear hb5 kc kd))
              have hK' := (W7_ko w5 q0 (.int .u32 a0) (.int .i64 (R1.nth 0)) (.int .i64 (R1.nth 1)) (.int .i64 (R1.nth 2)) (.int .i64 (R1.nth 3)) (.int .i64 (R1.nth 4)) (.slice Ak k ck)).same D _ P5.out.2.2.2.1 rfl
              have e3' := W7_put P5.out.1 (.int .u32 a0) (.int .i64 (R1.nth 0)) (.int .i64 (R1.nth 1)) (.int .i64 (R1.nth 2)) (.int .i64 (R1.nth 3)) (.int .i64 (R1.nth 4)) (.slice Ak k ck)
              have hbw := W7_below P5.out.2.2.2.2.1 (Nat.le_refl q0) (.int .u32 a0) (.int .i64 (R1.nth 0)) (.int .i64 (R1.nth 1)) (.int .i64 (R1.nth 2)) (.int .i64 (R1.nth 3)) (.int .i64 (R1.nth 4)) (.slice Ak k ck)
              have hRw := Kd.R_lower (base' := q0) (Kd.R_step (ok := fun k => L0 ≤ k) (Kd.R_mono (Kd.R_bound P5.out.2.2.2.2.2.2) (fun k hk => hk.2.1)) (fun j hj _ => W7_other w5 q0 (.int .u32 a0) (.int .i64 (R1.nth 0)) (.int .i64 (R1.nth 1)) (.int .i64 (R1.nth 2)) (.int .i64 (R1.nth 3)) (.int .i64 (R1.nth 4)) (.slice Ak k ck) j (by omega))) (by omega)
              unfold W7 at hK' e3' hbw hRw
              generalize (((((((w5.setCell ⟨q0, 0, none⟩ (.int .u32 a0)).setCell ⟨q0, 1, none⟩ (.int .i64 (R1.nth 0))).setCell ⟨q0, 2, none⟩ (.int .i64 (R1.nth 1))).setCell ⟨q0, 3, none⟩ (.int .i64 (R1.nth 2))).setCell ⟨q0, 4, none⟩ (.int .i64 (R1.nth 3))).setCell ⟨q0, 5, none⟩ (.int .i64 (R1.nth 4))).setCell ⟨q0, 6, none⟩ (.slice Ak k ck)) = Wd at e3' hK' hbw hRw ⊢
              refine ⟨by simp, .inl ⟨_, _, rfl, run_takeDeferred hK', ?_⟩⟩
              have f0 := cell_kept ((cell_of_row Wd q0 0 _ _ _ e3').trans (rfl : _ = some (Value.int .u32 a0))) (grownBy_putObj' _ D (.deferred none)) (fun r e => by cases e; exact ⟨_, hK', rfl⟩)
              have f1 := cell_kept ((cell_of_row Wd q0 1 _ _ _ e3').trans (rfl : _ = some (Value.int .i64 (R1.nth 0)))) (grownBy_putObj' _ D (.deferred none)) (fun r e => by cases e; exact ⟨_, hK', rfl⟩)
              have f2 := cell_kept ((cell_of_row Wd q0 2 _ _ _ e3').trans (rfl : _ = some (Value.int .i64 (R1.nth 1)))) (grownBy_putObj' _ D (.deferred none)) (fun r e => by cases e; exact ⟨_, hK', rfl⟩)
              have f3 := cell_kept ((cell_of_row Wd q0 3 _ _ _ e3').trans (rfl : _ = some (Value.int .i64 (R1.nth 2)))) (grownBy_putObj' _ D (.deferred none)) (fun r e => by cases e; exact ⟨_, hK', rfl⟩)
              have f4 := cell_kept ((cell_of_row Wd q0 4 _ _ _ e3').trans (rfl : _ = some (Value.int .i64 (R1.nth 3)))) (grownBy_putObj' _ D (.deferred none)) (fun r e => by cases e; exact ⟨_, hK', rfl⟩)
              have f5 := cell_kept ((cell_of_row Wd q0 5 _ _ _ e3').trans (rfl : _ = some (Value.int .i64 (R1.nth 4)))) (grownBy_putObj' _ D (.deferred none)) (fun r e => by cases e; exact ⟨_, hK', rfl⟩)
              have f6 := cell_kept ((cell_of_row Wd q0 6 _ _ _ e3').trans (rfl : _ = some (Value.slice Ak k ck))) (grownBy_putObj' _ D (.deferred none)) (fun r e => by cases e; exact ⟨_, hK', rfl⟩)
              refine ⟨.tuple #[.agg #[.int .u32 a0, .int .i64 (R1.nth 0), .int .i64 (R1.nth 1), .int .i64 (R1.nth 2), .int .i64 (R1.nth 3), .int .i64 (R1.nth 4), .slice Ak k ck], .int .i64 0], ?_, ?_⟩
              · simp [results, Try.results97, go_sem, f0, f1, f2, f3, f4, f5, f6]
              · rw [HYES.out]
                refine ⟨.slice Ak k ck, rfl, ?_, ?_⟩
                · rw [hq0]
                  show Kd.R k39 39 _ q0 (fun _ => True) (.slice Ak k ck) (tiersOf R1 k)
                  refine Kd.R_mono (Kd.R_step (Kd.R_bound hRw) (fun j hj hlt => ?_)) (fun _ _ => trivial)
                  obtain ⟨_, _, _, _, _, cells, hc⟩ := hj
                  exact World.putObj_heap_other (fun e => by subst e; rw [hK'] at hc; cases hc)
                · rw [hq0]
                  exact hbw.trans (belowK_b (n₀ := q0) (w := wL) (by omega) Wd D _ (.deferred none) (by omega) hK' rfl rfl)
          · have hd21 : (R1.skip (6 + 2 * k)).done = 21 := by
              unfold Rs.done at hdn ⊢
              split at hdn <;> simp_all
            have HNO : Aside0 (pget l = (0, 0, 0, 0, 0, 0, [], 21)) := ⟨by rw [HG.out, if_neg (fun h => hdn h.1)]⟩
            rw [hd21] at kd
            gi_wp2_with (refine ⟨trivial, ?_⟩; gi_at_call 31; refine (callsIn_wide.2 kd.out).mono ?_; rintro e w5 ⟨rfl, rfl⟩)
            refine ⟨trivial, ?_⟩
            have fz := fun j => blk_frozen HPk.out.1 j
            have z0 := (cell_of_row wr q0 0 _ _ _ HPk.out.1).trans (rfl : _ = some (Value.int .u32 0))
            have z1 := (cell_of_row wr q0 1 _ _ _ HPk.out.1).trans (rfl : _ = some (Value.int .i64 0))
            have z2 := (cell_of_row wr q0 2 _ _ _ HPk.out.1).trans (rfl : _ = some (Value.int .i64 0))
            have z3 := (cell_of_row wr q0 3 _ _ _ HPk.out.1).trans (rfl : _ = some (Value.int .i64 0))
            have z4 := (cell_of_row wr q0 4 _ _ _ HPk.out.1).trans (rfl : _ = some (Value.int .i64 0))
            have z5 := (cell_of_row wr q0 5 _ _ _ HPk.out.1).trans (rfl : _ = some (Value.int .i64 0))
            have z6 := (cell_of_row wr q0 6 _ _ _ HPk.out.1).trans (rfl : _ = some (Value.slice none 0 0))
            gi_wp2
            have hK' := (W7_ko wr q0 (.int .u32 0) (.int .i64 0) (.int .i64 0) (.int .i64 0) (.int .i64 0) (.int .i64 0) (.slice none 0 0)).same D _ HPk.out.2.2.2.1 rfl
            have e3' := W7_put HPk.out.1 (.int .u32 0) (.int .i64 0) (.int .i64 0) (.int .i64 0) (.int .i64 0) (.int .i64 0) (.slice none 0 0)
            have hbw := W7_below HPk.out.2.2.2.2.1 (Nat.le_refl q0) (.int .u32 0) (.int .i64 0) (.int .i64 0) (.int .i64 0) (.int .i64 0) (.int .i64 0) (.slice none 0 0)
            unfold W7 at hK' e3' hbw
            generalize (((((((wr.setCell ⟨q0, 0, none⟩ (.int .u32 0)).setCell ⟨q0, 1, none⟩ (.int .i64 0)).setCell ⟨q0, 2, none⟩ (.int .i64 0)).setCell ⟨q0, 3, none⟩ (.int .i64 0)).setCell ⟨q0, 4, none⟩ (.int .i64 0)).setCell ⟨q0, 5, none⟩ (.int .i64 0)).setCell ⟨q0, 6, none⟩ (.slice none 0 0)) = Wd at e3' hK' hbw ⊢
            refine ⟨by simp, .inl ⟨_, _, rfl, run_takeDeferred hK', ?_⟩⟩
            have f0 := cell_kept ((cell_of_row Wd q0 0 _ _ _ e3').trans (rfl : _ = some (Value.int .u32 0))) (grownBy_putObj' _ D (.deferred none)) (fun r e => by cases e; exact ⟨_, hK', rfl⟩)
            have f1 := cell_kept ((cell_of_row Wd q0 1 _ _ _ e3').trans (rfl : _ = some (Value.int .i64 0))) (grownBy_putObj' _ D (.deferred none)) (fun r e => by cases e; exact ⟨_, hK', rfl⟩)
            have f2 := cell_kept ((cell_of_row Wd q0 2 _ _ _ e3').trans (rfl : _ = some (Value.int .i64 0))) (grownBy_putObj' _ D (.deferred none)) (fun r e => by cases e; exact ⟨_, hK', rfl⟩)
            have f3 := cell_kept ((cell_of_row Wd q0 3 _ _ _ e3').trans (rfl : _ = some (Value.int .i64 0))) (grownBy_putObj' _ D (.deferred none)) (fun r e => by cases e; exact ⟨_, hK', rfl⟩)
            have f4 := cell_kept ((cell_of_row Wd q0 4 _ _ _ e3').trans (rfl : _ = some (Value.int .i64 0))) (grownBy_putObj' _ D (.deferred none)) (fun r e => by cases e; exact ⟨_, hK', rfl⟩)
            have f5 := cell_kept ((cell_of_row Wd q0 5 _ _ _ e3').trans (rfl : _ = some (Value.int .i64 0))) (grownBy_putObj' _ D (.deferred none)) (fun r e => by cases e; exact ⟨_, hK', rfl⟩)
            have f6 := cell_kept ((cell_of_row Wd q0 6 _ _ _ e3').trans (rfl : _ = some (Value.slice none 0 0))) (grownBy_putObj' _ D (.deferred none)) (fun r e => by cases e; exact ⟨_, hK', rfl⟩)
            refine ⟨.tuple #[.agg #[.int .u32 0, .int .i64 0, .int .i64 0, .int .i64 0, .int .i64 0, .int .i64 0, .slice none 0 0], .int .i64 21], ?_, ?_⟩
            · simp [results, Try.results97, go_sem, f0, f1, f2, f3, f4, f5, f6]
            · rw [HNO.out]
              refine ⟨.slice none 0 0, rfl, Kd.R_nil _ _ _ _ _, ?_⟩
              rw [hq0]
              exact hbw.trans (belowK_b (n₀ := q0) (w := wL) (by omega) Wd D _ (.deferred none) (by omega) hK' rfl rfl)
  case stop =>
    rintro D c' pre W hD hpre hF hK
    exact hF.elim
end Go.Proofs.Ytanjkhdagegapaa.Ext
end

section
/- Contracts of quitrentref01's Number and Text, proved by walking their code. -/
namespace Go.Proofs.Ytanjkhdagegapaa.Ext
open Go.RowKit Go.Proofs.YtanjkhdagegapaaW.PrintWords Go.Proofs.YtanjkhdagegapaaW.PrintLast Go.Proofs.YtanjkhdagegapaaW.PrintMore Go.Proofs.YtanjkhdagegapaaW.Hand
set_option linter.unusedVariables false
theorem beN_take (n : Nat) (v : Int) (j : Nat) (hj : j < n) : (beN n v).take (j + 1) = (beN n v).take j ++ [v / 256 ^ (n - 1 - j) % 256] := by
  induction n generalizing j with
  | zero => omega
  | succ n ih =>
    cases j with
    | zero => simp [beN]
    | succ j =>
      rw [beN, List.take_succ_cons, List.take_succ_cons, List.cons_append, ih j (by omega), show n + 1 - 1 - (j + 1) = n - 1 - j by omega]
set_option maxRecDepth 100000 in
set_option maxHeartbeats 1600000 in
theorem Number_calls (v : Int) (n : Nat) (wd : Int) (hwd : wd = n) (w : World) (hn : n ≤ 8) (hv : 0 ≤ v) :
    Calls Try.prog 60 #[.int .u64 v, .int .i64 wd] w fun e w' => ∃ v0 : Value, e = .returned v0 ∧ Kd.R (Kd.int .u8) 5 w' w.heap.size (fun _ => True) v0 (beN n v) ∧ Below w.heap.size w w' := by
  subst hwd
  go_enter Try.func60, Try.ntmps60
  go_wp2_with fail
  go_loopw [5, 6] (fun o i wr => ∃ j : Nat, j ≤ n ∧ i = .int .i64 ((n : Int) - 1 - (j : Int)) ∧ Aside0 (Kd.R (Kd.int .u8) 5 wr w.heap.size (fun _ => True) o ((beN n v).take j)) ∧ Aside0 (Below w.heap.size w wr)) (fun _ i _ => (intOf i + 1).toNat)
  case atStart => exact ⟨0, by omega, by go_num, ⟨by rw [List.take_zero]; exact Kd.R_nil _ _ _ _ _⟩, ⟨Below.refl _ _⟩⟩
  case round =>
    obtain ⟨j, hj, rfl, HO, HB⟩ := hrel
    by_cases hlt : j < n
    · obtain ⟨m, hm, hm2⟩ : ∃ m : Nat, (n : Int) - 1 - (j : Int) = (m : Int) ∧ n - 1 - j = m := ⟨n - 1 - j, by omega, rfl⟩
      have hst := beN_take n v j hlt
      rw [hm2] at hst
      have HM := Aside0.mk hm
      rw [hm]
      have h80 : (0 : Int) ≤ 8 * (m : Int) := by omega
      have h81 : (8 : Int) * (m : Int) ≤ 64 := by omega
      have h83 : v / 2 ^ (8 * m) = v / 256 ^ m := by rw [Int.pow_mul]; rfl
      have h82 : (8 * (m : Int)).toNat = 8 * m := by omega
      have HST := Aside0.mk hst
      have HJ := Aside0.mk (show j < 8 by omega)
      clear hst hm hm2 hv
      go_wp2_with (at_builtin; obtain ⟨Av, cv, ev⟩ := Kd.R_slice HO.out; subst ev; refine Kd.R_append_row (Value.int .u8) (0 : Int) (w0 := w) w.heap.size rfl (.tmp 13) (.tmp 19) 29 5 (.int .u8 0) 1 rfl Try.underlying29 infoU8 rfl (by decide) (.slice Av ((beN n v).take j).length cv) ((beN n v).take j) [v / 256 ^ m % 256] (some ⟨wr.heap.size, 0, none⟩) 1 1 (fun _ => True) rfl rfl (fun _ _ => trivial) (Kd.R_below HO.out (below_alloc (Below.refl _ _) _)) (C_block (xs := [v / 256 ^ m % 256]) (heap_new _ _) rfl (by simp)) (below_alloc HB.out _) (Nat.le_trans HB.out.size (by rw [size_alloc]; omega)) (by have := HJ.out; simp; omega) ?_; intro v1 w2 ho1 hb1 hg1 hat1; rw [← HST.out] at ho1; have HV1 := Aside0.mk ho1; have HB1 := Aside0.mk hb1; clear ho1 hb1 hg1 hat1)
      go_roundw
      case rel => exact ⟨j + 1, by omega, by have := HM.out; go_num, HV1, HB1⟩
      case measure => have := HM.out; simp [intOf]
    · obtain rfl : j = n := by omega
      have hng : ¬ (0 : Int) ≤ (j : Int) - 1 - (j : Int) := by omega
      have HO2 : Aside0 (Kd.R (Kd.int .u8) 5 wr w.heap.size (fun _ => True) u5 (beN j v)) := ⟨by have := HO.out; rw [List.take_of_length_le (by rw [beN_length]; exact Nat.le_refl _)] at this; exact this⟩
      go_wp2_with fail
      go_ret
      exact ⟨_, rfl, HO2.out, HB.out⟩
set_option maxHeartbeats 800000 in
theorem RText_calls (A : Option Addr) (c : Nat) (s : List Int) (w : World) (hr : Kd.C (Kd.int .u8) w A s.length s) (hl : s.length ≤ 140737488355000) :
    Calls Try.prog 38 #[.slice A s.length c] w fun e w' => ∃ v0 : Value, e = .returned v0 ∧ Kd.R (Kd.int .u8) 5 w' w.heap.size (fun _ => True) v0 (beN 4 s.length ++ s) ∧ Below w.heap.size w w' := by
  have HR := Aside0.mk hr
  have hw : IntKind.u64.wrap (s.length : Int) = (s.length : Int) := by rw [IntKind.wrap_u64]; omega
  clear hr
  go_enter Try.func38, Try.ntmps38
  go_wp2_with fail
  refine (Number_calls s.length 4 4 rfl _ (by decide) (by omega)).mono ?_
  rintro e w1 ⟨v0, rfl, hV, hb⟩
  have HO := Aside0.mk hV
  have HB := Aside0.mk hb
  clear hV hb
  go_wp2_with (at_builtin; refine Kd.R_append_row (Value.int .u8) (0 : Int) (w0 := w) w.heap.size rfl (.tmp 6) (.tmp 7) 29 5 (.int .u8 0) 1 rfl Try.underlying29 infoU8 rfl (by decide) v0 (beN 4 s.length) s A s.length c (fun _ => True) rfl rfl (fun _ _ => trivial) HO.out (Kd.C_below HR.out HB.out) HB.out HB.out.size (by simp [beN_length]; omega) ?_; intro v1 w2 ho1 hb1 hg1 hat1; have HV1 := Aside0.mk ho1; have HB1 := Aside0.mk hb1; clear ho1 hb1 hg1 hat1)
  go_ret
  exact ⟨v1, rfl, HV1.out, HB1.out⟩
end Go.Proofs.Ytanjkhdagegapaa.Ext
end

section
/- Contracts of quitrentref01's Value and State, proved by walking their code. -/
namespace Go.Proofs.Ytanjkhdagegapaa.Ext
open Go.RowKit Go.Proofs.YtanjkhdagegapaaW.PrintWords Go.Proofs.YtanjkhdagegapaaW.PrintLast Go.Proofs.YtanjkhdagegapaaW.PrintMore Go.Proofs.YtanjkhdagegapaaW.Hand
set_option linter.unusedVariables false
set_option maxHeartbeats 800000 in
theorem Value_calls (A : Option Addr) (c n : Nat) (l : List Int) (hn : l.length = n) (w : World) (hr : Kd.C (Kd.int .u8) w A n l) (h : ∀ c ∈ l, IsByte c) (h8 : l.length ≤ 8) :
    Calls Try.prog 61 #[.slice A n c] w fun e w' => e = .returned (.int .u64 (beVal l)) ∧ Drawn0 w w' := by
  subst hn
  have HR := Aside0.mk hr
  clear hr
  go_enter Try.func61, Try.ntmps61
  go_wp2
  go_loopw [3, 4] (fun v i wr => ∃ j : Nat, j ≤ l.length ∧ i = .int .i64 j ∧ v = .int .u64 (beVal (l.take j)) ∧ Aside0 (Drawn0 w wr)) (fun _ i _ => l.length - (intOf i).toNat)
  case atStart => exact ⟨0, by omega, rfl, by simp [beVal], ⟨Drawn0.refl _⟩⟩
  case round =>
    obtain ⟨j, hj, rfl, rfl, HD⟩ := hrel
    by_cases hlt : j < l.length
    · obtain ⟨ad, e1, hx⟩ := Kd.at_int (Kd.C_below HR.out HD.out.below) j (by omega) (by omega)
      cases e1
      simp only [Int.toNat_natCast] at hx
      obtain ⟨h1, h2, h3⟩ := sum_step l h h8 j hlt
      have hc := rd_byte l h j hlt
      obtain ⟨c1, HC⟩ : ∃ c, Aside0 (c = rd l j) := ⟨_, ⟨rfl⟩⟩
      rw [← HC.out] at hx h2 h3 hc
      obtain ⟨v1, HV⟩ : ∃ v, Aside0 (v = beVal (l.take j)) := ⟨_, ⟨rfl⟩⟩
      rw [← HV.out] at h1 h2 h3 ⊢
      have H3 := Aside0.mk h3
      have hc1 := hc.1
      have hc2 := hc.2
      clear hc h3 h
      have q1 : IntKind.u64.wrap (v1 * 256) = v1 * 256 := by rw [u64_conv, Int.emod_eq_of_lt (by omega) (by omega)]
      have q2 : IntKind.u64.wrap (v1 * 256 + c1) = v1 * 256 + c1 := by rw [u64_conv, Int.emod_eq_of_lt (by omega) (by omega)]
      have q3 : bits .or .u64 (v1 * 256) c1 = v1 * 256 + c1 := by
        have et : top64 = 18446744073709551616 := rfl
        exact bits_join .u64 64 (by decide) (fun n h0 h1 => by rw [IntKind.wrap_u64]; omega) 8 (v1 * 256) c1 (by omega) (by omega) (by omega) hc1 (by omega) (by omega)
      go_wp2_with fail
      go_roundw
      case rel => exact ⟨j + 1, by omega, by go_num, by rw [H3.out], HD⟩
      case measure => simp [intOf]; omega
    · obtain rfl : j = l.length := by omega
      rw [List.take_length]
      go_wp2_with fail
      go_ret
      exact ⟨rfl, HD.out⟩
theorem cut_mid {A : Option Addr} {c : Nat} {xs : List Int} {a b : Nat} (h1 : a ≤ b) (hm : b ≤ xs.length) (hc : xs.length ≤ c) (bi : Int) (hb : bi = (b : Int)) :
    ∃ (A' : Option Addr) (c' : Nat), (∀ W : World, (Instr.slice 29 (.slice A xs.length c) (some (.int .i64 (a : Int))) (some (.int .i64 bi)) none).run Try.prog W = .ok (.slice A' (b - a) c') W) ∧
      (∀ w : World, Kd.C (Kd.int .u8) w A xs.length xs → Kd.C (Kd.int .u8) w A' ((xs.take b).drop a).length ((xs.take b).drop a)) ∧ b - a ≤ c' := by
  subst hb
  obtain ⟨i0, hi, hz0, hz1, hz2⟩ := info_parts infoU8
  obtain ⟨A', h3, h4, h5⟩ := print_mid_of (P := Try.prog) (Value.int .u8) (0 : Int) 29 5 .i64 .i64 Try.underlying29 hi hz1 A c xs (a : Int) (b : Int) (by omega) (by omega) (by omega) hc
  have hl : ((xs.take b).drop a).length = b - a := by simp; omega
  simp only [Int.toNat_natCast, hl] at h3 h5
  simp only [Int.toNat_natCast] at h4
  exact ⟨A', _, h3, fun w h => Kd.C_of_reads (d := (0 : Int)) (h1 := fun _ => rfl) (h4 w (Kd.reads_of_C (enc := Value.int .u8) (d := (0 : Int)) (h1 := fun _ => rfl) h)), h5⟩
end Go.Proofs.Ytanjkhdagegapaa.Ext
end

section
/- The contracts of package plan, in the print's form. -/
namespace Go.Proofs.Ytanjkhdagegapaa.Ext
open Go.RowKit Go.Shelf Go.Proofs.YtanjkhdagegapaaW.PrintWords Go.Proofs.YtanjkhdagegapaaW.PrintLast Go.Proofs.YtanjkhdagegapaaW.PrintMore Go.Proofs.YtanjkhdagegapaaW.Hand Go.Proofs.Ytanjkhdagegapaa.PZ
set_option linter.unusedVariables false
theorem numsOk_of {a0 a1 a2 a3 a4 a5 : Int} {ls : List S39} (h : pchk a0 a1 a2 a3 a4 a5 ls = true) (i : Nat) (hi : i < 5) : 0 ≤ numOf a1 a2 a3 a4 a5 i ∧ numOf a1 a2 a3 a4 a5 i ≤ mostOf i := by
  unfold pchk at h
  rw [Bool.and_eq_true] at h
  have h1 := h.1
  unfold numsOk at h1
  rw [List.all_eq_true] at h1
  have h2 := h1 i (List.mem_range.2 hi)
  simpa [okNum] using h2
def plan_Check.f (a0 a1 a2 a3 a4 a5 : Int) (l : List S39) : Option Bool := some (pchk a0 a1 a2 a3 a4 a5 l)
theorem plan_Check.calls (a0 a1 a2 a3 a4 a5 : Int) (A : Option Addr) (c : Nat) (l : List S39) (r : Bool) (w : World) (hC : Kd.C k39 w A l.length l) (hc : l.length ≤ c) (h : plan_Check.f a0 a1 a2 a3 a4 a5 l = some r) :
    Calls Try.prog 79 #[.agg #[.int .u32 a0, .int .i64 a1, .int .i64 a2, .int .i64 a3, .int .i64 a4, .int .i64 a5, .slice A l.length c]] w fun e w' => e = .returned (.bool r) ∧ Below w.heap.size w w' := by
  obtain rfl := Option.some.inj h
  exact plan_Check_go a0 a1 a2 a3 a4 a5 A c l w hC hc
def plan_Put.f (a0 a1 a2 a3 a4 a5 : Int) (l : List S39) : Option (List Int × Int) := some (pput a0 a1 a2 a3 a4 a5 l)
theorem plan_Put.calls (a0 a1 a2 a3 a4 a5 : Int) (A : Option Addr) (c : Nat) (l : List S39) (t1 : List Int) (t2 : Int) (w : World) (hC : Kd.C k39 w A l.length l) (hc : l.length ≤ c) (h : plan_Put.f a0 a1 a2 a3 a4 a5 l = some (t1, t2)) :
    Calls Try.prog 49 #[.agg #[.int .u32 a0, .int .i64 a1, .int .i64 a2, .int .i64 a3, .int .i64 a4, .int .i64 a5, .slice A l.length c]] w fun e w' => ∃ v : Value, e = .returned (.tuple #[v, .int .i64 t2]) ∧ Kd.R (Kd.int .u8) 5 w' w.heap.size (fun _ => True) v t1 ∧ Below w.heap.size w w' := by
  have h := Option.some.inj h
  have := plan_Put_go a0 a1 a2 a3 a4 a5 A c l w hC hc
  rw [h] at this
  exact this
def bytesOk (l : List Int) : Bool := l.all fun x => decide (0 ≤ x) && decide (x < 256)
theorem bytesOk_iff {l : List Int} (h : bytesOk l = true) : ∀ x ∈ l, IsByte x := fun x hx => by
  have := List.all_eq_true.1 h x hx
  simpa [IsByte] using this
theorem bytesOk_of {l : List Int} (h : ∀ x ∈ l, IsByte x) : bytesOk l = true := List.all_eq_true.2 fun x hx => by
  have := h x hx
  simpa [IsByte] using this
def plan_Get.f (l : List Int) : Option (Int × Int × Int × Int × Int × Int × List S39 × Int) := if bytesOk l = true ∧ l.length ≤ 140737488354000 then some (pget l) else none
theorem plan_Get.calls (A : Option Addr) (c : Nat) (l : List Int) (t0 t1 t2 t3 t4 t5 : Int) (t6 : List S39) (t7 : Int) (w : World) (hC : Kd.C (Kd.int .u8) w A l.length l) (hc : l.length ≤ c) (h : plan_Get.f l = some (t0, t1, t2, t3, t4, t5, t6, t7)) :
    Calls Try.prog 97 #[.slice A l.length c] w fun e w' => ∃ v : Value, e = .returned (.tuple #[.agg #[.int .u32 t0, .int .i64 t1, .int .i64 t2, .int .i64 t3, .int .i64 t4, .int .i64 t5, v], .int .i64 t7]) ∧ Kd.R k39 39 w' w.heap.size (fun _ => True) v t6 ∧ Below w.heap.size w w' := by
  unfold plan_Get.f at h
  by_cases h1 : bytesOk l = true ∧ l.length ≤ 140737488354000
  · rw [if_pos h1] at h
    have h := Option.some.inj h
    have := plan_Get_go A c l w hC (bytesOk_iff h1.1) h1.2
    rw [h] at this
    exact this
  · rw [if_neg h1] at h; cases h
def quitrentref01_Number.f (v n : Int) : Option (List Int) := if 0 ≤ v ∧ 0 ≤ n ∧ n ≤ 8 then some (beN n.toNat v) else none
theorem quitrentref01_Number.calls (v n : Int) (r : List Int) (w : World) (h : quitrentref01_Number.f v n = some r) :
    Calls Try.prog 60 #[.int .u64 v, .int .i64 n] w fun e w' => ∃ v0 : Value, e = .returned v0 ∧ Kd.R (Kd.int .u8) 5 w' w.heap.size (fun _ => True) v0 r ∧ Below w.heap.size w w' := by
  unfold quitrentref01_Number.f at h
  by_cases h1 : 0 ≤ v ∧ 0 ≤ n ∧ n ≤ 8
  · rw [if_pos h1] at h
    obtain rfl := Option.some.inj h
    exact Number_calls v n.toNat n (by omega) w (by omega) h1.1
  · rw [if_neg h1] at h; cases h
def quitrentref01_Value.f (l : List Int) : Option Int := if bytesOk l = true ∧ l.length ≤ 8 then some (beVal l) else none
theorem quitrentref01_Value.calls (A : Option Addr) (c : Nat) (l : List Int) (r : Int) (w : World) (hC : Kd.C (Kd.int .u8) w A l.length l) (hc : l.length ≤ c) (h : quitrentref01_Value.f l = some r) :
    Calls Try.prog 61 #[.slice A l.length c] w fun e w' => e = .returned (.int .u64 r) ∧ Drawn0 w w' := by
  unfold quitrentref01_Value.f at h
  by_cases h1 : bytesOk l = true ∧ l.length ≤ 8
  · rw [if_pos h1] at h
    obtain rfl := Option.some.inj h
    exact Value_calls A c l.length l rfl w hC (bytesOk_iff h1.1) h1.2
  · rw [if_neg h1] at h; cases h
end Go.Proofs.Ytanjkhdagegapaa.Ext
end

section
/- What is read is what was put: plain facts on plans' bytes. -/
namespace Go.Proofs.Ytanjkhdagegapaa.Ext
open Go.RowKit Go.Proofs.YtanjkhdagegapaaW.PrintWords Go.Proofs.YtanjkhdagegapaaW.PrintLast Go.Proofs.YtanjkhdagegapaaW.PrintMore Go.Proofs.YtanjkhdagegapaaW.Hand Go.Proofs.Ytanjkhdagegapaa.PZ
set_option linter.unusedVariables false
theorem top_emod_wrap (v : Int) (h0 : 0 ≤ v) (h1 : v < top64) : wrap64 v % top64 = v := by
  unfold wrap64 top64 at *
  omega
theorem int_good (r : Rs) (hb : ∀ x ∈ r.xs, IsByte x) (h : r.int.2.bad = false) : r.bad = false ∧ r.xs = beN 8 (r.int.1 % top64) ++ r.int.2.xs ∧ ∀ x ∈ r.int.2.xs, IsByte x := by
  unfold Rs.int Rs.take at h ⊢
  by_cases hc : r.bad = true ∨ r.xs.length < 8
  · rw [if_pos hc] at h; cases h
  · rw [if_neg hc]
    dsimp only
    have h1 : ∀ x ∈ r.xs.take 8, IsByte x := fun x hx => hb x (List.mem_of_mem_take hx)
    have hl : (r.xs.take 8).length = 8 := by rw [List.length_take]; omega
    have hv := beVal_lt _ h1
    rw [hl] at hv
    have e8 : (256 : Int) ^ 8 = top64 := by decide
    rw [e8] at hv
    have hbe := beN_beVal _ h1
    rw [hl] at hbe
    refine ⟨by simp at hc; exact hc.1, ?_, fun x hx => hb x (List.mem_of_mem_drop hx)⟩
    rw [top_emod_wrap _ hv.1 hv.2, hbe, List.take_append_drop]
theorem skip_good (r : Rs) (hb : ∀ x ∈ r.xs, IsByte x) : ∀ k, (r.skip k).bad = false → r.bad = false ∧ r.xs = bytes8 ((List.range k).map r.nth) ++ (r.skip k).xs ∧ ∀ x ∈ (r.skip k).xs, IsByte x := by
  intro k
  induction k with
  | zero => intro h; exact ⟨h, by simp [bytes8, Rs.skip], hb⟩
  | succ k ih =>
    intro h
    have hx : ∀ x ∈ (r.skip k).xs, IsByte x := by
      have key : ∀ j, ∀ x ∈ (r.skip j).xs, IsByte x := by
        intro j
        induction j with
        | zero => exact hb
        | succ j ihj =>
          intro x hx
          refine ihj x ?_
          show x ∈ (r.skip j).xs
          have hx : x ∈ (r.skip j).int.2.xs := hx
          unfold Rs.int Rs.take at hx
          by_cases hc : (r.skip j).bad = true ∨ (r.skip j).xs.length < 8
          · rw [if_pos hc] at hx; exact hx
          · rw [if_neg hc] at hx; exact List.mem_of_mem_drop hx
      exact key k
    obtain ⟨h1, h2, h3⟩ := int_good (r.skip k) hx h
    obtain ⟨i1, i2, i3⟩ := ih h1
    refine ⟨i1, ?_, h3⟩
    rw [List.range_succ, List.map_append, List.map_singleton, bytes8_snoc, List.append_assoc]
    rw [i2]
    conv => lhs; rw [h2]
    rfl
theorem uint_int (r : Rs) : r.uint.2 = r.int.2 := by
  unfold Rs.uint Rs.int
  cases r.take 8 with
  | mk a b => cases a <;> rfl
theorem uint_good (r : Rs) (hb : ∀ x ∈ r.xs, IsByte x) (h : r.uint.2.bad = false) : r.xs = beN 8 r.uint.1 ++ r.uint.2.xs ∧ (0 ≤ r.uint.1 ∧ r.uint.1 < top64) ∧ ∀ x ∈ r.uint.2.xs, IsByte x := by
  unfold Rs.uint Rs.take at h ⊢
  by_cases hc : r.bad = true ∨ r.xs.length < 8
  · rw [if_pos hc] at h; cases h
  · rw [if_neg hc]
    dsimp only
    have h1 : ∀ x ∈ r.xs.take 8, IsByte x := fun x hx => hb x (List.mem_of_mem_take hx)
    have hl : (r.xs.take 8).length = 8 := by rw [List.length_take]; omega
    have hv := beVal_lt _ h1
    rw [hl] at hv
    have e8 : (256 : Int) ^ 8 = top64 := by decide
    rw [e8] at hv
    have hbe := beN_beVal _ h1
    rw [hl] at hbe
    exact ⟨by rw [hbe, List.take_append_drop], hv, fun x hx => hb x (List.mem_of_mem_drop hx)⟩
theorem done_zero {r : Rs} (h : r.done = 0) : r.bad = false ∧ r.xs = [] := by
  unfold Rs.done at h
  by_cases hc : r.bad = true ∨ 0 < r.xs.length
  · rw [if_pos hc] at h; cases h
  · simp only [not_or, Bool.not_eq_true] at hc
    exact ⟨hc.1, List.eq_nil_of_length_eq_zero (by omega)⟩
theorem nums_of (r : Rs) (n : Nat) : (List.range (6 + 2 * n)).map r.nth = [r.nth 0, r.nth 1, r.nth 2, r.nth 3, r.nth 4, r.nth 5] ++ tierNums (tiersOf r n) := by
  induction n with
  | zero => rfl
  | succ n ih =>
    rw [show 6 + 2 * (n + 1) = 6 + 2 * n + 1 + 1 by omega, List.range_succ, List.range_succ, List.map_append, List.map_append, ih, tiersOf_snoc, tierNums_snoc]
    simp [show 7 + 2 * n = 6 + 2 * n + 1 by omega]
/-- What is read may be, and its bytes are those that were read; else nothing is answered. -/
theorem pget_sound (l : List Int) (hb : ∀ x ∈ l, IsByte x) : pget l = (0, 0, 0, 0, 0, 0, [], 21) ∨ ∃ a0 a1 a2 a3 a4 a5 ls, pget l = (a0, a1, a2, a3, a4, a5, ls, 0) ∧ a0 ≤ 4294967295 ∧ pchk a0 a1 a2 a3 a4 a5 ls = true ∧ bytes8 (planNums a0 a1 a2 a3 a4 a5 ls) = l := by
  by_cases h1 : 4294967295 < (⟨l, false⟩ : Rs).uint.1 ∨ (⟨l, false⟩ : Rs).uint.2.nth 5 < 0 ∨ 4 < (⟨l, false⟩ : Rs).uint.2.nth 5
  · left; unfold pget; simp only []; rw [if_pos h1]
  · by_cases h2 : ((⟨l, false⟩ : Rs).uint.2.skip (6 + 2 * ((⟨l, false⟩ : Rs).uint.2.nth 5).toNat)).done = 0 ∧ pchk (⟨l, false⟩ : Rs).uint.1 ((⟨l, false⟩ : Rs).uint.2.nth 0) ((⟨l, false⟩ : Rs).uint.2.nth 1) ((⟨l, false⟩ : Rs).uint.2.nth 2) ((⟨l, false⟩ : Rs).uint.2.nth 3) ((⟨l, false⟩ : Rs).uint.2.nth 4) (tiersOf (⟨l, false⟩ : Rs).uint.2 ((⟨l, false⟩ : Rs).uint.2.nth 5).toNat) = true
    · right
      refine ⟨_, _, _, _, _, _, _, by unfold pget; simp only []; rw [if_neg h1, if_pos h2], by omega, h2.2, ?_⟩
      have hub : ∀ x ∈ (⟨l, false⟩ : Rs).uint.2.xs, IsByte x := by
        intro x hx
        rw [uint_int] at hx
        unfold Rs.int Rs.take at hx
        by_cases hc : (⟨l, false⟩ : Rs).bad = true ∨ (⟨l, false⟩ : Rs).xs.length < 8
        · rw [if_pos hc] at hx; exact hb x hx
        · rw [if_neg hc] at hx; exact hb x (List.mem_of_mem_drop hx)
      obtain ⟨d1, d2⟩ := done_zero h2.1
      obtain ⟨s1, s2, _⟩ := skip_good _ hub _ d1
      obtain ⟨u1, u2, _⟩ := uint_good ⟨l, false⟩ hb s1
      rw [d2, List.append_nil, nums_of] at s2
      have hid : (⟨l, false⟩ : Rs).uint.1 % top64 = (⟨l, false⟩ : Rs).uint.1 := Int.emod_eq_of_lt u2.1 u2.2
      have hn : (((⟨l, false⟩ : Rs).uint.2.nth 5).toNat : Int) = (⟨l, false⟩ : Rs).uint.2.nth 5 := by omega
      have u1 : l = beN 8 (⟨l, false⟩ : Rs).uint.1 ++ (⟨l, false⟩ : Rs).uint.2.xs := u1
      rw [s2] at u1
      conv => rhs; rw [u1]
      unfold planNums
      rw [tiersOf_length, hn]
      simp only [bytes8, List.map_cons, List.flatten_cons, List.cons_append, List.nil_append, hid]
    · left; unfold pget; simp only []; rw [if_neg h1, if_neg h2]
end Go.Proofs.Ytanjkhdagegapaa.Ext
end

section
/- What was put is read again. -/
namespace Go.Proofs.Ytanjkhdagegapaa.Ext
open Go.RowKit Go.Proofs.YtanjkhdagegapaaW.PrintWords Go.Proofs.YtanjkhdagegapaaW.PrintLast Go.Proofs.YtanjkhdagegapaaW.PrintMore Go.Proofs.YtanjkhdagegapaaW.Hand Go.Proofs.Ytanjkhdagegapaa.PZ
set_option linter.unusedVariables false
theorem wrap_mod (v : Int) (h : I64 v) : wrap64 (v % top64) = v := by
  unfold I64 at h
  unfold wrap64 top64
  omega
theorem take_bytes8 (v : Int) (l rest : List Int) : (bytes8 (v :: l) ++ rest).take 8 = beN 8 (v % top64) ∧ (bytes8 (v :: l) ++ rest).drop 8 = bytes8 l ++ rest := by
  have e : bytes8 (v :: l) ++ rest = beN 8 (v % top64) ++ (bytes8 l ++ rest) := by simp [bytes8]
  have h8 : (beN 8 (v % top64)).length = 8 := beN_length _ _
  rw [e]
  exact ⟨by rw [List.take_append_of_le_length (by omega), List.take_of_length_le (by omega)], by rw [List.drop_append_of_le_length (by omega), List.drop_of_length_le (by omega), List.nil_append]⟩
theorem int_put (v : Int) (l rest : List Int) (h : I64 v) : (⟨bytes8 (v :: l) ++ rest, false⟩ : Rs).int = (v, ⟨bytes8 l ++ rest, false⟩) := by
  obtain ⟨e1, e2⟩ := take_bytes8 v l rest
  have hlen : ¬ ((⟨bytes8 (v :: l) ++ rest, false⟩ : Rs).bad = true ∨ (⟨bytes8 (v :: l) ++ rest, false⟩ : Rs).xs.length < 8) := by
    simp only [not_or]
    refine ⟨by decide, ?_⟩
    show ¬ (bytes8 (v :: l) ++ rest).length < 8
    rw [List.length_append, bytes8_length, List.length_cons]; omega
  unfold Rs.int
  rw [Rs.take_yes hlen]
  show (wrap64 (beVal ((bytes8 (v :: l) ++ rest).take 8)), (⟨(bytes8 (v :: l) ++ rest).drop 8, false⟩ : Rs)) = _
  rw [e1, e2, beVal_beN_lt 8 _ (top_pos v).1 (by have := (top_pos v).2; rw [show (256 : Int) ^ 8 = top64 by decide]; exact this), wrap_mod v h]
theorem skip_put : ∀ (k : Nat) (l rest : List Int), k ≤ l.length → (∀ v ∈ l, I64 v) → (⟨bytes8 l ++ rest, false⟩ : Rs).skip k = ⟨bytes8 (l.drop k) ++ rest, false⟩ := by
  intro k
  induction k with
  | zero => intro l rest _ _; rfl
  | succ k ih =>
    intro l rest hk hl
    show ((⟨bytes8 l ++ rest, false⟩ : Rs).skip k).int.2 = _
    rw [ih l rest (by omega) hl, List.drop_eq_getElem_cons (show k < l.length by omega), int_put _ _ _ (hl _ (List.getElem_mem _))]
theorem nth_put (k : Nat) (l rest : List Int) (hk : k < l.length) (hl : ∀ v ∈ l, I64 v) : (⟨bytes8 l ++ rest, false⟩ : Rs).nth k = l[k] := by
  unfold Rs.nth
  rw [skip_put k l rest (by omega) hl, List.drop_eq_getElem_cons hk, int_put _ _ _ (hl _ (List.getElem_mem _))]
theorem chk_range {ls : List S39} (h : chk ls = true) : ls.length ≤ 4 ∧ ∀ t ∈ ls, I64 t.f0 ∧ I64 t.f1 := by
  unfold chk at h
  rw [Bool.and_eq_true, decide_eq_true_eq] at h
  refine ⟨h.1.2, ?_⟩
  have key : ∀ (l : List S39) (was : Int), 0 ≤ was → chkFrom was l = true → ∀ t ∈ l, I64 t.f0 ∧ I64 t.f1 := by
    intro l
    induction l with
    | nil => intro was _ _ t ht; cases ht
    | cons t l ih =>
      intro was hw hc x hx
      cases l with
      | nil =>
        simp only [chkFrom, okP, Bool.and_eq_true, decide_eq_true_eq, beq_iff_eq] at hc
        simp only [List.mem_singleton] at hx
        subst hx
        unfold I64; omega
      | cons u l =>
        simp only [chkFrom, okP, Bool.and_eq_true, decide_eq_true_eq] at hc
        rcases List.mem_cons.1 hx with rfl | hx
        · unfold I64; omega
        · exact ih t.f0 (by omega) hc.2 x hx
  exact key ls 0 (by omega) h.2
theorem uint_put (v : Int) (l rest : List Int) : (⟨bytes8 (v :: l) ++ rest, false⟩ : Rs).uint = (v % top64, ⟨bytes8 l ++ rest, false⟩) := by
  obtain ⟨e1, e2⟩ := take_bytes8 v l rest
  have hlen : ¬ ((⟨bytes8 (v :: l) ++ rest, false⟩ : Rs).bad = true ∨ (⟨bytes8 (v :: l) ++ rest, false⟩ : Rs).xs.length < 8) := by
    simp only [not_or]
    refine ⟨by decide, ?_⟩
    show ¬ (bytes8 (v :: l) ++ rest).length < 8
    rw [List.length_append, bytes8_length, List.length_cons]; omega
  unfold Rs.uint
  rw [Rs.take_yes hlen]
  show (beVal ((bytes8 (v :: l) ++ rest).take 8), (⟨(bytes8 (v :: l) ++ rest).drop 8, false⟩ : Rs)) = _
  rw [e1, e2, beVal_beN_lt 8 _ (top_pos v).1 (by have := (top_pos v).2; rw [show (256 : Int) ^ 8 = top64 by decide]; exact this)]
theorem tierNums_inj : ∀ (a b : List S39), tierNums a = tierNums b → a = b := by
  intro a
  induction a with
  | nil =>
    intro b h
    cases b with
    | nil => rfl
    | cons y b => simp [tierNums] at h
  | cons x a ih =>
    intro b h
    cases b with
    | nil => simp [tierNums] at h
    | cons y b =>
      simp only [tierNums, List.map_cons, List.flatten_cons, List.cons_append, List.nil_append, List.cons.injEq] at h
      obtain ⟨h1, h2, h3⟩ := h
      rw [ih b h3]
      cases x; cases y
      simp only at h1 h2
      rw [h1, h2]
theorem tierNums_length (ls : List S39) : (tierNums ls).length = 2 * ls.length := by
  induction ls with
  | nil => rfl
  | cons x a ih => simp [tierNums] at ih ⊢; omega
theorem tierNums_mem {ls : List S39} (h : ∀ t ∈ ls, I64 t.f0 ∧ I64 t.f1) : ∀ v ∈ tierNums ls, I64 v := by
  intro v hv
  obtain ⟨l, hl, hvl⟩ := List.mem_flatten.1 hv
  obtain ⟨t, ht, rfl⟩ := List.mem_map.1 hl
  have := h t ht
  simp at hvl
  rcases hvl with rfl | rfl
  · exact this.1
  · exact this.2
/-- What Put makes, with or without bytes behind it, is read so. -/
theorem pget_rest (a0 a1 a2 a3 a4 a5 : Int) (ls : List S39) (rest : List Int) (h0 : a0 ≤ 4294967295) (hk : pchk a0 a1 a2 a3 a4 a5 ls = true) :
    pget (bytes8 (planNums a0 a1 a2 a3 a4 a5 ls) ++ rest) = if rest = [] then (a0, a1, a2, a3, a4, a5, ls, 0) else (0, 0, 0, 0, 0, 0, [], 21) := by
  have hk' := hk
  unfold pchk at hk'
  rw [Bool.and_eq_true, Bool.and_eq_true, decide_eq_true_eq] at hk'
  obtain ⟨hl4, ht⟩ := chk_range hk'.2.2
  have n1 : 0 ≤ a1 ∧ a1 ≤ 1099511627776 := numsOk_of hk 0 (by decide)
  have n2 : 0 ≤ a2 ∧ a2 ≤ 1099511627776 := numsOk_of hk 1 (by decide)
  have n3 : 0 ≤ a3 ∧ a3 ≤ 1099511627776 := numsOk_of hk 2 (by decide)
  have n4 : 0 ≤ a4 ∧ a4 ≤ 1099511627776 := numsOk_of hk 3 (by decide)
  have n5 : 0 ≤ a5 ∧ a5 ≤ 1125899906842624 := numsOk_of hk 4 (by decide)
  obtain ⟨nums, hn⟩ : ∃ n, [a1, a2, a3, a4, a5, (ls.length : Int)] ++ tierNums ls = n := ⟨_, rfl⟩
  have hpl : planNums a0 a1 a2 a3 a4 a5 ls = a0 :: nums := by rw [← hn]; rfl
  have hlen : nums.length = 6 + 2 * ls.length := by rw [← hn, List.length_append, tierNums_length]; rfl
  have hI : ∀ v ∈ nums, I64 v := by
    intro v hv
    rw [← hn] at hv
    rcases List.mem_append.1 hv with hv | hv
    · simp at hv
      unfold I64
      rcases hv with rfl | rfl | rfl | rfl | rfl | rfl <;> omega
    · exact tierNums_mem ht v hv
  have hm : a0 % top64 = a0 := by unfold top64; omega
  obtain ⟨r, hr⟩ : ∃ r : Rs, (⟨bytes8 nums ++ rest, false⟩ : Rs) = r := ⟨_, rfl⟩
  have hu : (⟨bytes8 (planNums a0 a1 a2 a3 a4 a5 ls) ++ rest, false⟩ : Rs).uint = (a0, r) := by rw [hpl, uint_put, hm, hr]
  have hnth : ∀ (k : Nat) (h : k < nums.length), r.nth k = nums[k] := fun k h => by rw [← hr]; exact nth_put k nums rest h hI
  have hall : (List.range (6 + 2 * ls.length)).map r.nth = nums := by
    apply List.ext_getElem
    · simp [hlen]
    · intro i h1 h2
      rw [List.getElem_map, List.getElem_range]
      exact hnth i h2
  rw [nums_of, ← hn] at hall
  simp only [List.cons_append, List.nil_append, List.cons.injEq] at hall
  obtain ⟨e0, e1, e2, e3, e4, e5, e6⟩ := hall
  have e6 := tierNums_inj _ _ e6
  have hsk : r.skip (6 + 2 * ls.length) = ⟨rest, false⟩ := by
    rw [← hr, skip_put _ _ _ (by omega) hI, List.drop_of_length_le (by omega)]
    simp [bytes8]
  unfold pget
  rw [hu]
  simp only []
  rw [e5, if_neg (by omega), Int.toNat_natCast, e0, e1, e2, e3, e4, e6, hsk]
  by_cases hrest : rest = []
  · subst hrest
    rw [if_pos ⟨rfl, hk⟩, if_pos rfl]
  · have hd : (⟨rest, false⟩ : Rs).done ≠ 0 := by
      unfold Rs.done
      rw [if_pos (.inr (by show 0 < rest.length; exact List.length_pos_iff.2 hrest))]
      decide
    rw [if_neg (fun h => hd h.1), if_neg hrest]
/-- Bytes that are no whole numbers are no plan. -/
theorem pget_off (l : List Int) (hb : ∀ x ∈ l, IsByte x) (h : l.length % 8 ≠ 0) : pget l = (0, 0, 0, 0, 0, 0, [], 21) := by
  rcases pget_sound l hb with h1 | ⟨a0, a1, a2, a3, a4, a5, ls, _, _, _, hbt⟩
  · exact h1
  · exfalso
    rw [← hbt, bytes8_length] at h
    omega
theorem bytes8_bytes (l : List Int) : ∀ x ∈ bytes8 l, IsByte x := by
  intro x hx
  obtain ⟨b, hb, hxb⟩ := List.mem_flatten.1 hx
  obtain ⟨v, _, rfl⟩ := List.mem_map.1 hb
  exact beN_bytes 8 _ x hxb
end Go.Proofs.Ytanjkhdagegapaa.Ext
end
