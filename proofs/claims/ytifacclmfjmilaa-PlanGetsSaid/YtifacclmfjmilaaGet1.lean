/- plan.Get, proved by walking its code. -/
import Derived.Test.YtifacclmfjmilaaPPut
import Derived.Test.YtifacclmfjmilaaRead
import Derived.Deep.RegionHeldLaw
import Derived.Deep.RegionLaw
namespace Go.Proofs.Ytifacclmfjmilaa.Ext
open Go.RowKit Go.Shelf Go.Proofs.YtifacclmfjmilaaW.PrintWords Go.Proofs.YtifacclmfjmilaaW.PrintLast Go.Proofs.YtifacclmfjmilaaW.PrintMore Go.Proofs.YtifacclmfjmilaaW.Hand Go.Proofs.Ytifacclmfjmilaa.PZ
attribute [local go_sem] Oper.semAt_some
set_option linter.unusedVariables false
/-- A reader behind so many numbers. -/
def Rs.skip (r : Rs) : Nat → Rs
  | 0 => r
  | k + 1 => (r.skip k).int.2
/-- The number behind so many. -/
def Rs.nth (r : Rs) (k : Nat) : Int := (r.skip k).int.1
theorem int_len (r : Rs) : r.int.2.xs.length ≤ r.xs.length := by
  unfold Rs.int Rs.take
  by_cases h : r.bad = true ∨ r.xs.length < 8
  · rw [if_pos h]; exact Nat.le_refl _
  · rw [if_neg h]; simp
theorem skip_len (r : Rs) (k : Nat) : (r.skip k).xs.length ≤ r.xs.length := by
  induction k with
  | zero => exact Nat.le_refl _
  | succ k ih => exact Nat.le_trans (int_len _) ih
/-- The tiers that are read: so many. -/
def tiersOf (r : Rs) (n : Nat) : List S55 := (List.range n).map fun i => ⟨r.nth (6 + 2 * i), r.nth (7 + 2 * i)⟩
theorem tiersOf_snoc (r : Rs) (n : Nat) : tiersOf r (n + 1) = tiersOf r n ++ [⟨r.nth (6 + 2 * n), r.nth (7 + 2 * n)⟩] := by simp [tiersOf, List.range_succ]
def stepF (r : Rs) (s : Nat × (Nat → Int)) (x : Nat) : Nat × (Nat → Int) := (s.1 + 1, fun i => if i = x then r.nth s.1 else s.2 i)
/-- The numbers of a plan when so many places were filled. -/
def valsOf (r : Rs) (l : List Nat) : Nat × (Nat → Int) := l.foldl (stepF r) (0, fun _ => 0)
theorem valsOf_snoc (r : Rs) (l : List Nat) (x : Nat) : valsOf r (l ++ [x]) = stepF r (valsOf r l) x := by simp [valsOf]
theorem valsOf_fst (r : Rs) (l : List Nat) : (valsOf r l).1 = l.length := by
  suffices h : ∀ s, (l.foldl (stepF r) s).1 = s.1 + l.length by have := h (0, fun _ => 0); simpa [valsOf] using this
  induction l with
  | nil => intro s; rfl
  | cons x l ih => intro s; rw [List.foldl_cons, ih]; simp [stepF]; omega
theorem tiersOf_length (r : Rs) (n : Nat) : (tiersOf r n).length = n := by simp [tiersOf]
/-- The plan's cells. -/
abbrev planK (a0 : Int) (r : Rs) (l : List Nat) : Array Value := planC a0 ((valsOf r l).2 0) ((valsOf r l).2 1) ((valsOf r l).2 2) ((valsOf r l).2 3) ((valsOf r l).2 4) none 0 0
theorem planK_put (a0 : Int) (r : Rs) (l : List Nat) (i : Nat) (hi : i < 5) : (planK a0 r l).setIfInBounds (i + 1) (.int .i64 (r.nth l.length)) = planK a0 r (l ++ [i]) := by
  unfold planK
  rw [valsOf_snoc]
  unfold stepF
  rw [valsOf_fst]
  match i, hi with
  | 0, _ => rfl
  | 1, _ => rfl
  | 2, _ => rfl
  | 3, _ => rfl
  | 4, _ => rfl
def PK (w W : World) (q0 rb g p D L0 : Nat) (P : Array Value) (v : Value) (xs : List S55) : Prop :=
  W.heap[q0]? = some (Obj.cells #[.int .u32 0, .int .i64 0, .int .i64 0, .int .i64 0, .int .i64 0, .int .i64 0, .slice none 0 0] 25 (0, 0)) ∧ Boxed W rb 60 (.pointer (some ⟨g, 0, none⟩)) ∧ W.heap[p]? = some (Obj.cells P 25 (0, 0)) ∧ W.heap[D]? = some (Obj.deferred (some [])) ∧ Below q0 w W ∧ L0 ≤ W.heap.size ∧ Kd.R k55 55 W L0 (fun _ => True) v xs
def PN (q0 rb g p D L0 : Nat) : Prop := q0 < g ∧ g < rb ∧ rb < p ∧ p < L0 ∧ L0 ≤ D
theorem PK.step {w W W' : World} {q0 rb g p D L0 : Nat} {P : Array Value} {v : Value} {xs : List S55} (h : PK w W q0 rb g p D L0 P v xs) (hs : W.heap.size ≤ W'.heap.size) (hk : ∀ k, k < W.heap.size → k ≠ g → W'.heap[k]? = W.heap[k]?) (hb : Below q0 W W') (hn : PN q0 rb g p D L0) : PK w W' q0 rb g p D L0 P v xs := by
  obtain ⟨h1, h2, h3, h4, h5, h6, h7⟩ := h
  obtain ⟨n1, n2, n3, n4, n5⟩ := hn
  have hl : ∀ {k : Nat} {o : Obj}, W.heap[k]? = some o → k < W.heap.size := fun h => (Array.getElem?_eq_some_iff.1 h).1
  exact ⟨(hk q0 (hl h1) (by omega)).trans h1, (hk rb h2.lt (by omega)).trans h2, (hk p (hl h3) (by omega)).trans h3, (hk D (hl h4) (by omega)).trans h4, h5.trans hb, Nat.le_trans h6 hs,
    Kd.R_mono (Kd.R_step (Kd.R_bound h7) (fun k hk2 hlt => hk k hlt (by have := hk2.2.1; omega))) (fun _ _ => trivial)⟩
theorem PK.grown {w W W' : World} {q0 rb g p D L0 : Nat} {P : Array Value} {v : Value} {xs : List S55} (h : PK w W q0 rb g p D L0 P v xs) (hg : W.grownBy W' (some g)) (hn : PN q0 rb g p D L0) : PK w W' q0 rb g p D L0 P v xs :=
  h.step hg.size (fun k hk hne => hg.block k hk (fun e => by injection e with e; omega)) ((Below.refl q0 W).grown hg (by have := h.2.2.2.2.2.1; obtain ⟨n1, n2, n3, n4, n5⟩ := hn; omega) (fun k e => by injection e with e; obtain ⟨n1, _⟩ := hn; omega)) hn
theorem PK.below {w W W' : World} {q0 rb g p D L0 : Nat} {P : Array Value} {v : Value} {xs : List S55} (h : PK w W q0 rb g p D L0 P v xs) (hb : Below W.heap.size W W') (hn : PN q0 rb g p D L0) : PK w W' q0 rb g p D L0 P v xs :=
  h.step hb.size (fun k hk _ => hb.block k hk) (below_weak_ hb (by have := h.2.2.2.2.2.1; obtain ⟨n1, n2, n3, n4, n5⟩ := hn; omega)) hn
/-- A tier is put behind, in the plan's cells too. -/
theorem PK.put {w W W' : World} {q0 rb g p D L0 : Nat} {a0 a1 a2 a3 a4 a5 : Int} {v v' : Value} {A : Option Addr} {n c : Nat} {xs xs' : List S55} (h : PK w W q0 rb g p D L0 (planC a0 a1 a2 a3 a4 a5 A n c) v xs)
    (hr : Kd.R k55 55 W' L0 (fun _ => True) v' xs') (hb : Below L0 W W') (hg : W.grownBy W' v.ownBlock) (hn : PN q0 rb g p D L0) {A' : Option Addr} {n' c' : Nat} (e : v' = .slice A' n' c') :
    PK w (W'.setCell ⟨p, 6, none⟩ v') q0 rb g p D L0 (planC a0 a1 a2 a3 a4 a5 A' n' c') v' xs' := by
  obtain ⟨h1, h2, h3, h4, h5, h6, h7⟩ := h
  obtain ⟨n1, n2, n3, n4, n5⟩ := hn
  have hD : W'.heap[D]? = some (Obj.deferred (some [])) := (hg.block D (Array.getElem?_eq_some_iff.1 h4).1 (fun e => by
    have := (Kd.R_bound h7).1 D e.symm
    obtain ⟨_, _, _, q, _, cells, hc⟩ := this
    rw [h4] at hc
    cases hc)).trans h4
  have ho : ∀ k, k ≠ p → (W'.setCell ⟨p, 6, none⟩ v').heap[k]? = W'.heap[k]? := fun k hk => Below.heap_setCell W' ⟨p, 6, none⟩ v' k hk
  refine ⟨(ho q0 (by omega)).trans ((hb.block q0 (by omega)).trans h1), (ho rb (by omega)).trans ((hb.block rb (by omega)).trans h2), ?_, (ho D (by omega)).trans hD, (h5.trans (below_weak_ hb (by omega))).setCell (by show q0 ≤ p; omega) _, ?_, ?_⟩
  · subst e
    exact blk_put ((hb.block p (by omega)).trans h3) 6 _ rfl
  · rw [World.size_setCell]; exact Nat.le_trans h6 hb.size
  · exact Kd.R_mono (Kd.R_far (Kd.R_bound hr) (p := ⟨p, 6, none⟩) (fun k hk => by have := hk.2.1; show k ≠ p; omega) _) (fun _ _ => trivial)
abbrev W7 (W : World) (q : Nat) (v0 v1 v2 v3 v4 v5 v6 : Value) : World := (((((((W.setCell ⟨q, 0, none⟩ v0).setCell ⟨q, 1, none⟩ v1).setCell ⟨q, 2, none⟩ v2).setCell ⟨q, 3, none⟩ v3).setCell ⟨q, 4, none⟩ v4).setCell ⟨q, 5, none⟩ v5).setCell ⟨q, 6, none⟩ v6)
theorem W7_put {W : World} {q t : Nat} {x0 x1 x2 x3 x4 x5 x6 : Value} (h : W.heap[q]? = some (Obj.cells #[x0, x1, x2, x3, x4, x5, x6] t (0, 0))) (v0 v1 v2 v3 v4 v5 v6 : Value) : (W7 W q v0 v1 v2 v3 v4 v5 v6).heap[q]? = some (Obj.cells #[v0, v1, v2, v3, v4, v5, v6] t (0, 0)) := by
  unfold W7
  have h0 := blk_put h 0 v0 (rfl : _ = #[v0, x1, x2, x3, x4, x5, x6])
  generalize W.setCell ⟨q, 0, none⟩ v0 = W1 at *
  have h1 := blk_put h0 1 v1 (rfl : _ = #[v0, v1, x2, x3, x4, x5, x6])
  generalize W1.setCell ⟨q, 1, none⟩ v1 = W2 at *
  have h2 := blk_put h1 2 v2 (rfl : _ = #[v0, v1, v2, x3, x4, x5, x6])
  generalize W2.setCell ⟨q, 2, none⟩ v2 = W3 at *
  have h3 := blk_put h2 3 v3 (rfl : _ = #[v0, v1, v2, v3, x4, x5, x6])
  generalize W3.setCell ⟨q, 3, none⟩ v3 = W4 at *
  have h4 := blk_put h3 4 v4 (rfl : _ = #[v0, v1, v2, v3, v4, x5, x6])
  generalize W4.setCell ⟨q, 4, none⟩ v4 = W5 at *
  have h5 := blk_put h4 5 v5 (rfl : _ = #[v0, v1, v2, v3, v4, v5, x6])
  generalize W5.setCell ⟨q, 5, none⟩ v5 = W6 at *
  exact blk_put h5 6 v6 rfl
theorem W7_ko (W : World) (q : Nat) (v0 v1 v2 v3 v4 v5 v6 : Value) : KeepsOthers W (W7 W q v0 v1 v2 v3 v4 v5 v6) := by
  unfold W7
  have h0 := KeepsOthers.setCell W ⟨q, 0, none⟩ v0
  generalize W.setCell ⟨q, 0, none⟩ v0 = W1 at *
  have h1 := h0.trans (KeepsOthers.setCell W1 ⟨q, 1, none⟩ v1)
  generalize W1.setCell ⟨q, 1, none⟩ v1 = W2 at *
  have h2 := h1.trans (KeepsOthers.setCell W2 ⟨q, 2, none⟩ v2)
  generalize W2.setCell ⟨q, 2, none⟩ v2 = W3 at *
  have h3 := h2.trans (KeepsOthers.setCell W3 ⟨q, 3, none⟩ v3)
  generalize W3.setCell ⟨q, 3, none⟩ v3 = W4 at *
  have h4 := h3.trans (KeepsOthers.setCell W4 ⟨q, 4, none⟩ v4)
  generalize W4.setCell ⟨q, 4, none⟩ v4 = W5 at *
  have h5 := h4.trans (KeepsOthers.setCell W5 ⟨q, 5, none⟩ v5)
  generalize W5.setCell ⟨q, 5, none⟩ v5 = W6 at *
  exact h5.trans (KeepsOthers.setCell W6 ⟨q, 6, none⟩ v6)
theorem W7_below {n : Nat} {w W : World} (h : Below n w W) {q : Nat} (hq : n ≤ q) (v0 v1 v2 v3 v4 v5 v6 : Value) : Below n w (W7 W q v0 v1 v2 v3 v4 v5 v6) := by
  unfold W7
  have h0 := h.setCell (p := ⟨q, 0, none⟩) hq v0
  generalize W.setCell ⟨q, 0, none⟩ v0 = W1 at *
  have h1 := h0.setCell (p := ⟨q, 1, none⟩) hq v1
  generalize W1.setCell ⟨q, 1, none⟩ v1 = W2 at *
  have h2 := h1.setCell (p := ⟨q, 2, none⟩) hq v2
  generalize W2.setCell ⟨q, 2, none⟩ v2 = W3 at *
  have h3 := h2.setCell (p := ⟨q, 3, none⟩) hq v3
  generalize W3.setCell ⟨q, 3, none⟩ v3 = W4 at *
  have h4 := h3.setCell (p := ⟨q, 4, none⟩) hq v4
  generalize W4.setCell ⟨q, 4, none⟩ v4 = W5 at *
  have h5 := h4.setCell (p := ⟨q, 5, none⟩) hq v5
  generalize W5.setCell ⟨q, 5, none⟩ v5 = W6 at *
  exact h5.setCell (p := ⟨q, 6, none⟩) hq v6
theorem W7_other (W : World) (q : Nat) (v0 v1 v2 v3 v4 v5 v6 : Value) (k : Nat) (hk : k ≠ q) : (W7 W q v0 v1 v2 v3 v4 v5 v6).heap[k]? = W.heap[k]? := by
  unfold W7
  rw [Below.heap_setCell _ _ _ _ (show k ≠ q from hk), Below.heap_setCell _ _ _ _ (show k ≠ q from hk), Below.heap_setCell _ _ _ _ (show k ≠ q from hk), Below.heap_setCell _ _ _ _ (show k ≠ q from hk), Below.heap_setCell _ _ _ _ (show k ≠ q from hk), Below.heap_setCell _ _ _ _ (show k ≠ q from hk), Below.heap_setCell _ _ _ _ (show k ≠ q from hk)]
/-- What Get answers: a plan and an error. -/
def pget (l : List Int) : Int × Int × Int × Int × Int × Int × List S55 × Int :=
  let id := (⟨l, false⟩ : Rs).uint.1
  let r := (⟨l, false⟩ : Rs).uint.2
  if 4294967295 < id ∨ r.nth 5 < 0 ∨ 4 < r.nth 5 then (0, 0, 0, 0, 0, 0, [], 21)
  else if (r.skip (6 + 2 * (r.nth 5).toNat)).done = 0 ∧ pchk id (r.nth 0) (r.nth 1) (r.nth 2) (r.nth 3) (r.nth 4) (tiersOf r (r.nth 5).toNat) = true then (id, r.nth 0, r.nth 1, r.nth 2, r.nth 3, r.nth 4, tiersOf r (r.nth 5).toNat, 0)
  else (0, 0, 0, 0, 0, 0, [], 21)
def GetIsP (w w' : World) (e : Ending) (g : Int × Int × Int × Int × Int × Int × List S55 × Int) : Prop :=
  ∃ v : Value, e = .returned (.tuple #[.agg #[.int .u32 g.1, .int .i64 g.2.1, .int .i64 g.2.2.1, .int .i64 g.2.2.2.1, .int .i64 g.2.2.2.2.1, .int .i64 g.2.2.2.2.2.1, v], .int .i64 g.2.2.2.2.2.2.2]) ∧ Kd.R k55 55 w' w.heap.size (fun _ => True) v g.2.2.2.2.2.2.1 ∧ Below w.heap.size w w'
set_option maxRecDepth 100000 in
set_option maxHeartbeats 3200000 in
theorem plan_Get_go (A : Option Addr) (c : Nat) (l : List Int) (w : World) (hC : Kd.C (Kd.int .u8) w A l.length l) (hb : ∀ x ∈ l, IsByte x) (hm : l.length ≤ 140737488354000) :
    Calls Try.prog 14 #[.slice A l.length c] w fun e w' => GetIsP w w' e (pget l) := by
  have kn := Aside0.mk (New_calls A c l _ (Kd.C_below hC (below_alloc (Below.refl _ _) (.cells #[.int .u32 0, .int .i64 0, .int .i64 0, .int .i64 0, .int .i64 0, .int .i64 0, .slice none 0 0] 25))) hb (by omega))
  clear hC
  refine (callsIn_wide (n := 5)).1 ?_
  refine callsIn_of_wp_marks Try.func14 rfl trivial ?_ rfl
  simp only [Try.ntmps14, List.size_toArray, List.length_cons, List.length_nil, Nat.reduceAdd, Nat.reduceSub, Array.replicate_succ, Array.replicate_zero, List.push_toArray, List.append_toArray, List.nil_append, List.cons_append]
  gi_wp2_with fail
  refine ⟨trivial, callsIn_wide.2 ?_⟩
  refine kn.out.mono ?_
  rintro e w1 ⟨g, rfl, hr1, hb1⟩
  have ku := Aside0.mk (Uint_calls g _ _ (w1.alloc (.cells #[.pointer (some ⟨g, 0, none⟩)] 60)) (RdrAt.alloc hr1 _) (by show l.length ≤ _; omega))
  have hgl : g < w1.heap.size := by obtain ⟨_, _, h1, _⟩ := hr1; exact h1.lt
  have hBg : w.heap.size + 1 ≤ g := by obtain ⟨_, _, _, _, _, _, h5⟩ := hr1; simpa using h5.1
  have HQ := Aside0.mk ((Blk.new_ (W := w) (o := .cells #[.int .u32 0, .int .i64 0, .int .i64 0, .int .i64 0, .int .i64 0, .int .i64 0, .slice none 0 0] 25)).below hb1)
  have HB1 := Aside0.mk (below_step (below_alloc (Below.refl _ w) (.cells #[.int .u32 0, .int .i64 0, .int .i64 0, .int .i64 0, .int .i64 0, .int .i64 0, .slice none 0 0] 25)) hb1)
  have HX1 := Aside0.mk (Boxed.new w1 60 (.pointer (some ⟨g, 0, none⟩)))
  clear hb1 hr1 kn
  gi_wp2_with fail
  refine ⟨trivial, callsIn_wide.2 ?_⟩
  refine ku.out.mono ?_
  rintro e w2 ⟨rfl, hr2, hg2⟩
  clear ku
  gi_wp2_with fail
  refine ⟨trivial, ?_⟩
  refine (numbers_in _ _ _).mono ?_
  rintro e w3 ⟨rfl, rfl⟩
  gi_wp2_with fail
  rw [World.size_alloc] at hr2
  obtain ⟨q0, hq0⟩ : ∃ q, w.heap.size = q := ⟨_, rfl⟩
  obtain ⟨rb, hrb⟩ : ∃ q, w1.heap.size = q := ⟨_, rfl⟩
  obtain ⟨p, hp⟩ : ∃ q, w2.heap.size = q := ⟨_, rfl⟩
  obtain ⟨⟨id, R1⟩, hid⟩ : ∃ x, (⟨l, false⟩ : Rs).uint = x := ⟨_, rfl⟩
  rw [hid] at hr2 ⊢
  dsimp only at hr2 ⊢
  obtain ⟨a0, ha0⟩ : ∃ a, id % 4294967296 = a := ⟨_, rfl⟩
  rw [ha0]
  rw [hq0] at hr2 hBg HQ HB1 ⊢
  rw [hrb] at hr2 hgl HX1 ⊢
  have hrbp : rb < p := by
    have := hg2.size
    rw [World.size_alloc] at this
    omega
  have hQ2 : w2.heap[q0]? = _ := (hg2.block q0 (by simp; omega) (fun e => by injection e with e; omega)).trans (HQ.out.alloc (o' := .cells #[.pointer (some ⟨g, 0, none⟩)] 60)).out
  have hX2 : Boxed w2 rb 60 (.pointer (some ⟨g, 0, none⟩)) := HX1.out.kept hg2 (fun e => by injection e with e; omega)
  have hB2 : Below q0 w w2 := ((HB1.out).alloc (by omega) _).grown hg2 (by simp; omega) (fun k e => by injection e with e; omega)
  obtain ⟨B, hBB⟩ : ∃ B : Nat → Prop, (fun k => q0 + 1 ≤ k ∧ k < rb) = B := ⟨_, rfl⟩
  rw [hBB] at hr2
  have hBk : ∀ k, B k → q0 < k ∧ k < rb := fun k hk => by rw [← hBB] at hk; exact ⟨by omega, hk.2⟩
  clear hBB hg2 HQ HX1 HB1
  rw [hp]
  obtain ⟨wL, hwL⟩ : ∃ W, ((w2.alloc (.cells (planK a0 R1 []) 25)).alloc (.cells #[.pointer (some ⟨p, 0, none⟩)] 51)) = W := ⟨_, rfl⟩
  have bQ : wL.heap[q0]? = some (Obj.cells #[.int .u32 0, .int .i64 0, .int .i64 0, .int .i64 0, .int .i64 0, .int .i64 0, .slice none 0 0] 25 (0, 0)) := by rw [← hwL]; exact (Blk.alloc (Blk.alloc (⟨hQ2⟩ : Blk w2 q0 _))).out
  have bX : Boxed wL rb 60 (.pointer (some ⟨g, 0, none⟩)) := by rw [← hwL]; exact (hX2.alloc _).alloc _
  have bR : RdrS wL g B R1 := by rw [← hwL]; exact RdrAt.alloc (RdrAt.alloc hr2 _) _
  have bP : wL.heap[p]? = some (Obj.cells (planK a0 R1 []) 25 (0, 0)) := by rw [← hwL]; exact (Blk.alloc (Blk.new hp.symm)).out
  have bN : Boxed wL (p + 1) 51 (.pointer (some ⟨p, 0, none⟩)) := by
    rw [← hwL]
    have := Boxed.new (w2.alloc (.cells (planK a0 R1 []) 25)) 51 (.pointer (some ⟨p, 0, none⟩))
    rw [World.size_alloc, hp] at this
    exact this
  have hB1 : Below q0 w wL := by rw [← hwL]; exact (hB2.alloc (by omega) _).alloc (by simp; omega) _
  have hsz : wL.heap.size = p + 2 := by rw [← hwL]; simp; omega
  rw [show ((w2.alloc (.cells (planC a0 0 0 0 0 0 none 0 0) 25)).alloc (.cells #[.pointer (some ⟨p, 0, none⟩)] 51)) = wL from hwL]
  clear hwL hr2 hQ2 hX2 hB2
  have hR1l : R1.xs.length ≤ 140737488354000 := by
    have h : R1 = (⟨l, false⟩ : Rs).uint.2 := by rw [hid]
    have := int_len ⟨l, false⟩
    rw [h]
    have e : (⟨l, false⟩ : Rs).uint.2 = (⟨l, false⟩ : Rs).int.2 := by
      unfold Rs.uint Rs.int
      cases ((⟨l, false⟩ : Rs).take 8) with
      | mk a b => cases a <;> rfl
    rw [e]
    exact Nat.le_trans this hm
  obtain ⟨L0, hL0⟩ : ∃ L, wL.heap.size = L := ⟨_, rfl⟩
  refine wpIn_rangeFunc_ownF rfl (by omega) (gf := 33) (lb := #[.pointer (some ⟨p + 1, 0, none⟩)]) rfl trivial (enters_of Try.func33 (by kernel_rfl) rfl)
    (numbers_stops _ (by omega) (p + 1) p wL bN) KpN.trans (fun W l o o' _ h hc _ => kpn_b W l o o' h hc) (Below.refl _ _) (fun _ => rfl)
    (fun pre W => pre.length ≤ 5 ∧ W.heap[q0]? = some (Obj.cells #[.int .u32 0, .int .i64 0, .int .i64 0, .int .i64 0, .int .i64 0, .int .i64 0, .slice none 0 0] 25 (0, 0)) ∧ Boxed W rb 60 (.pointer (some ⟨g, 0, none⟩)) ∧ RdrS W g B (R1.skip pre.length) ∧ W.heap[p]? = some (Obj.cells (planK a0 R1 (pre.map Subtype.val)) 25 (0, 0)) ∧ Below q0 w W)
    (fun _ _ _ => False)
    (fun pre W W' row ⟨h0, h1, h2, h3, h4, h5⟩ hg hr => ⟨h0, blk_own h1 rfl hg hr, blk_own h2 rfl hg hr, RdrAt.keep h3 (fun k hk hlt => hg.block k hlt (fun e => by have := (hr k e.symm).1; have := hBk k hk; omega)), blk_own h4 rfl hg hr, h5.grown hg (by have := h5.size; omega) (fun k e => by have := (hr k e).1; omega)⟩)
    (fun _ _ _ _ _ hs _ _ => hs)
    ⟨by simp, bQ, bX, bR, bP, hB1⟩
    (fun x => { tmps := #[.slice A l.length c, undef, .pointer (some ⟨q0, 0, none⟩), .int .i64 0, .pointer (some ⟨rb, 0, none⟩), .int .u64 id, .pointer (some ⟨p, 0, none⟩), .pointer (some ⟨p, x.1 + 1, none⟩), undef, .slice A l.length c, .pointer (some ⟨g, 0, none⟩), .pointer (some ⟨g, 0, none⟩), .int .u64 id, .int .u64 id, .int .u32 a0, .agg #[.int .u32 a0, .int .i64 0, .int .i64 0, .int .i64 0, .int .i64 0, .int .i64 0, .slice none 0 0], .func (.func 33) #[] #[.pointer (some ⟨p + 1, 0, none⟩)], .pointer (some ⟨p, x.1 + 1, none⟩), .int .i64 (mostOf x.1), undef, undef, undef, undef, undef, undef, undef, undef, undef, undef, undef, undef, undef, undef, undef, undef, undef, undef, undef, undef, undef, undef, undef, undef, undef, undef, undef, undef, undef, undef, undef, undef, undef, undef, undef, undef, undef, undef, undef, undef, undef], defers := [] }) ?assign ?body ?done ?stop
  case assign =>
    intro l x W K hK
    gi_wp2
    exact hK
  case body =>
    rintro l' pre ⟨i, hi5⟩ W ⟨h0, h1, h2, h3, h4, h5⟩ hlt
    have c2 := h2.cell
    have hskl := skip_len R1 pre.length
    have ki := Aside0.mk (Int_calls g B (R1.skip pre.length) W h3 (by omega))
    have hpl : p < W.heap.size := (Array.getElem?_eq_some_iff.1 h4).1
    have hB : B g := by obtain ⟨_, _, _, _, _, _, h⟩ := h3; exact h
    have hput := planK_put a0 R1 (pre.map Subtype.val) i hi5
    rw [List.length_map] at hput
    have hnth : (R1.skip pre.length).int.1 = R1.nth pre.length := rfl
    rw [hnth] at ki
    obtain ⟨v, hv⟩ : ∃ v, R1.nth pre.length = v := ⟨_, rfl⟩
    rw [hv] at ki hput
    have H1 := Aside0.mk h1
    have H2 := Aside0.mk h2
    have H3 := Aside0.mk h3
    have H4 := Aside0.mk h4
    have H5 := Aside0.mk h5
    clear h1 h2 h3 h4 h5 hv hnth hskl
    dsimp only
    gi_wp2_with (refine ⟨trivial, ?_⟩; gi_at_call 29; refine (CallsIn.inRound l' (callsIn_wide.2 ki.out)).mono ?_; rintro e w4 ⟨rfl, hr4, hg4⟩; have HR4 := Aside0.mk hr4; have HG4 := Aside0.mk hg4; have hp4 := (hg4.block p hpl (fun e => by injection e with e; omega)).trans H4.out; have g4 : w4.frozen? ⟨p, i + 1, none⟩ = false := blk_frozen hp4 (i + 1); have c4 := plan_num hp4 i hi5; have HP4 := Aside0.mk hp4; clear hr4 hg4 hp4 ki)
    have hR : RdrS (w4.setCell ⟨p, i + 1, none⟩ (.int .i64 v)) g B (R1.skip (pre.length + 1)) := RdrAt.keep HR4.out (fun k hk hlt => Below.heap_setCell w4 ⟨p, i + 1, none⟩ _ k (by show k ≠ p; have := hBk k hk; omega))
    have hgo : ∀ k o, (some g : Option Nat) = some k → W.heap[k]? = some o → ∃ c t fr, o = Obj.cells c t fr ∧ t ≠ 51 ∧ t ≠ 52 := fun k o e ho => by
      injection e with e
      subst e
      obtain ⟨A, c, h, _⟩ := H3.out
      rw [h.out] at ho
      injection ho with ho
      exact ⟨_, _, _, ho.symm, by decide, by decide⟩
    refine ⟨(KeepsOthers.of_grownBy HG4.out (fun j o ej hj => by obtain ⟨c, t, fr, e, _⟩ := hgo j o ej hj; subst e; rfl)).trans (KeepsOthers.setCell _ _ _), (kpn_grown HG4.out (fun k e o ho => hgo k o e ho)).trans (kpn_set _ HP4.out (by decide) (by decide)), ?_, ?_, ?_, ?_, ?_, ?_⟩
    · simp; omega
    · exact (Below.heap_setCell w4 ⟨p, i + 1, none⟩ _ q0 (by show q0 ≠ p; omega)).trans ((HG4.out.block q0 (Array.getElem?_eq_some_iff.1 H1.out).1 (fun e => by injection e with e; omega)).trans H1.out)
    · exact (Below.heap_setCell w4 ⟨p, i + 1, none⟩ _ rb (by show rb ≠ p; omega)).trans (H2.out.kept HG4.out (fun e => by injection e with e; omega))
    · rw [List.length_append]; exact hR
    · rw [List.map_append]; exact blk_put HP4.out (i + 1) _ hput
    · exact (H5.out.grown HG4.out (by have := H5.out.size; omega) (fun k e => by injection e with e; omega)).setCell (by show q0 ≤ p; omega) _
  case done =>
    rintro D ys W hD hys ⟨h0, h1, h2, h3, h4, h5⟩ hK
    have hyl : ys.length = 5 := by have := congrArg List.length hys; simpa using this
    rw [hyl] at h3
    rw [hys] at h4
    have hskl := skip_len R1 5
    have ki := Aside0.mk (Int_calls g B (R1.skip 5) W h3 (by omega))
    have c2 := h2.cell
    have hB : B g := by obtain ⟨_, _, _, _, _, _, h⟩ := h3; exact h
    have hDW : D < W.heap.size := (Array.getElem?_eq_some_iff.1 hK).1
    have hgD : D ≠ g := by have := hBk g hB; omega
    rw [show (R1.skip 5).int.1 = R1.nth 5 from rfl] at ki
    obtain ⟨N, hN⟩ : ∃ N, R1.nth 5 = N := ⟨_, rfl⟩
    rw [hN] at ki
    have H1 := Aside0.mk h1
    have H2 := Aside0.mk h2
    have H3 := Aside0.mk h3
    have H4 := Aside0.mk h4
    have H5 := Aside0.mk h5
    have HK := Aside0.mk hK
    clear h1 h2 h3 h4 h5 hK hskl
    have hgo : ∀ j o, (some g : Option Nat) = some j → W.heap[j]? = some o → o.isCells = true := fun k o e ho => by
      injection e with e
      subst e
      obtain ⟨A, c, h, _⟩ := H3.out
      rw [h.out] at ho
      injection ho with ho
      rw [← ho]; rfl
    have HGO := Aside0.mk hgo
    have hbadd : (4294967295 < id ∨ N < 0 ∨ 4 < N) ∨ (¬ 4294967295 < id ∧ ¬ N < 0 ∧ ¬ 4 < N) := by omega
    clear hgo
    rcases hbadd with hbad | ⟨hi1, hN0, hN4⟩
    · have HNO : Aside0 (pget l = (0, 0, 0, 0, 0, 0, [], 21)) := ⟨by
        unfold pget
        rw [hid]
        dsimp only
        rw [hN, if_pos hbad]⟩
      have hd : decide (4294967295 < id) = true ∨ (decide (4294967295 < id) = false ∧ decide (N < 0) = true) ∨ (decide (4294967295 < id) = false ∧ decide (N < 0) = false ∧ decide (4 < N) = true) := by
        simp only [decide_eq_true_eq, decide_eq_false_iff_not]; omega
      clear hbad
      rcases hd with d1 | ⟨d1, d2⟩ | ⟨d1, d2, d3⟩
      all_goals
        gi_wp2_with (refine ⟨trivial, ?_⟩; gi_at_call 29; refine (callsIn_wide.2 ki.out).mono ?_; rintro e w4 ⟨rfl, hr4, hg4⟩; have HG4 := Aside0.mk hg4; have HQ4 := Aside0.mk ((hg4.block q0 (Array.getElem?_eq_some_iff.1 H1.out).1 (fun e => by injection e with e; omega)).trans H1.out); have fz := fun j => blk_frozen HQ4.out j; have z0 := (cell_of_row w4 q0 0 _ _ _ HQ4.out).trans (rfl : _ = some (Value.int .u32 0)); have z1 := (cell_of_row w4 q0 1 _ _ _ HQ4.out).trans (rfl : _ = some (Value.int .i64 0)); have z2 := (cell_of_row w4 q0 2 _ _ _ HQ4.out).trans (rfl : _ = some (Value.int .i64 0)); have z3 := (cell_of_row w4 q0 3 _ _ _ HQ4.out).trans (rfl : _ = some (Value.int .i64 0)); have z4 := (cell_of_row w4 q0 4 _ _ _ HQ4.out).trans (rfl : _ = some (Value.int .i64 0)); have z5 := (cell_of_row w4 q0 5 _ _ _ HQ4.out).trans (rfl : _ = some (Value.int .i64 0)); have z6 := (cell_of_row w4 q0 6 _ _ _ HQ4.out).trans (rfl : _ = some (Value.slice none 0 0)); clear hr4 hg4 ki)
        have HB4 := Aside0.mk (H5.out.grown HG4.out (by have := H5.out.size; omega) (fun k e => by injection e with e; omega))
        have HK4 := Aside0.mk ((KeepsOthers.of_grownBy HG4.out HGO.out).same D _ HK.out rfl)
        have hK' := (W7_ko w4 q0 (.int .u32 0) (.int .i64 0) (.int .i64 0) (.int .i64 0) (.int .i64 0) (.int .i64 0) (.slice none 0 0)).same D _ HK4.out rfl
        have e3 := W7_put HQ4.out (.int .u32 0) (.int .i64 0) (.int .i64 0) (.int .i64 0) (.int .i64 0) (.int .i64 0) (.slice none 0 0)
        have hbw := W7_below HB4.out (Nat.le_refl q0) (.int .u32 0) (.int .i64 0) (.int .i64 0) (.int .i64 0) (.int .i64 0) (.int .i64 0) (.slice none 0 0)
        unfold W7 at hK' e3 hbw
        generalize (((((((w4.setCell ⟨q0, 0, none⟩ (.int .u32 0)).setCell ⟨q0, 1, none⟩ (.int .i64 0)).setCell ⟨q0, 2, none⟩ (.int .i64 0)).setCell ⟨q0, 3, none⟩ (.int .i64 0)).setCell ⟨q0, 4, none⟩ (.int .i64 0)).setCell ⟨q0, 5, none⟩ (.int .i64 0)).setCell ⟨q0, 6, none⟩ (.slice none 0 0)) = Wd at e3 hK' hbw ⊢
        refine ⟨by simp, .inl ⟨_, _, rfl, run_takeDeferred hK', ?_⟩⟩
        have f0 := cell_kept ((cell_of_row Wd q0 0 _ _ _ e3).trans (rfl : _ = some (Value.int .u32 0))) (grownBy_putObj' _ D (.deferred none)) (fun r e => by cases e; exact ⟨_, hK', rfl⟩)
        have f1 := cell_kept ((cell_of_row Wd q0 1 _ _ _ e3).trans (rfl : _ = some (Value.int .i64 0))) (grownBy_putObj' _ D (.deferred none)) (fun r e => by cases e; exact ⟨_, hK', rfl⟩)
        have f2 := cell_kept ((cell_of_row Wd q0 2 _ _ _ e3).trans (rfl : _ = some (Value.int .i64 0))) (grownBy_putObj' _ D (.deferred none)) (fun r e => by cases e; exact ⟨_, hK', rfl⟩)
        have f3 := cell_kept ((cell_of_row Wd q0 3 _ _ _ e3).trans (rfl : _ = some (Value.int .i64 0))) (grownBy_putObj' _ D (.deferred none)) (fun r e => by cases e; exact ⟨_, hK', rfl⟩)
        have f4 := cell_kept ((cell_of_row Wd q0 4 _ _ _ e3).trans (rfl : _ = some (Value.int .i64 0))) (grownBy_putObj' _ D (.deferred none)) (fun r e => by cases e; exact ⟨_, hK', rfl⟩)
        have f5 := cell_kept ((cell_of_row Wd q0 5 _ _ _ e3).trans (rfl : _ = some (Value.int .i64 0))) (grownBy_putObj' _ D (.deferred none)) (fun r e => by cases e; exact ⟨_, hK', rfl⟩)
        have f6 := cell_kept ((cell_of_row Wd q0 6 _ _ _ e3).trans (rfl : _ = some (Value.slice none 0 0))) (grownBy_putObj' _ D (.deferred none)) (fun r e => by cases e; exact ⟨_, hK', rfl⟩)
        refine ⟨.tuple #[.agg #[.int .u32 0, .int .i64 0, .int .i64 0, .int .i64 0, .int .i64 0, .int .i64 0, .slice none 0 0], .int .i64 21], ?_, ?_⟩
        · simp [results, Try.results14, go_sem, f0, f1, f2, f3, f4, f5, f6]
        · rw [HNO.out]
          refine ⟨.slice none 0 0, rfl, Kd.R_nil _ _ _ _ _, ?_⟩
          rw [hq0]
          exact hbw.trans (belowK_b (n₀ := q0) (w := wL) (by omega) Wd D _ (.deferred none) (by omega) hK' rfl rfl)
    · have d1 : decide (4294967295 < id) = false := decide_eq_false hi1
      have d2 : decide (N < 0) = false := decide_eq_false hN0
      have d3 : decide (4 < N) = false := decide_eq_false hN4
      gi_wp2_with (refine ⟨trivial, ?_⟩; gi_at_call 29; refine (callsIn_wide.2 ki.out).mono ?_; rintro e w4 ⟨rfl, hr4, hg4⟩; have HG4 := Aside0.mk hg4; have HR4 := Aside0.mk hr4; clear hr4 hg4 ki)
      obtain ⟨n, hn⟩ : ∃ n : Nat, N = n := ⟨N.toNat, by omega⟩
      subst hn
      have hn4 : n ≤ 4 := by omega
      have HPN : Aside0 (PN q0 rb g p D L0) := ⟨⟨by omega, hgl, hrbp, by omega, by omega⟩⟩
      have HK0 : Aside0 (PK w w4 q0 rb g p D L0 (planC a0 (R1.nth 0) (R1.nth 1) (R1.nth 2) (R1.nth 3) (R1.nth 4) none 0 0) (.slice none 0 0) (tiersOf R1 0)) :=
        ⟨PK.grown ⟨H1.out, H2.out, H4.out, HK.out, H5.out, by have := hDW; omega, Kd.R_nil _ _ _ _ _⟩ HG4.out HPN.out⟩
      have HR40 : Aside0 (RdrS w4 g B (R1.skip (6 + 2 * 0))) := HR4
      clear H1 H2 H3 H4 H5 HK HG4 HR4 HGO c2 d1 d2 d3
      gi_loopw [37] (fun i wr => ∃ k : Nat, k ≤ n ∧ i = .int .i64 k ∧ Aside0 (RdrS wr g B (R1.skip (6 + 2 * k))) ∧ ∃ A' c', Aside0 (PK w wr q0 rb g p D L0 (planC a0 (R1.nth 0) (R1.nth 1) (R1.nth 2) (R1.nth 3) (R1.nth 4) A' k c') (.slice A' k c') (tiersOf R1 k)))
        (fun i _ => n - (intOf i).toNat)
      case atStart => exact ⟨0, Nat.zero_le _, rfl, HR40, none, 0, HK0⟩
      case round =>
        obtain ⟨k, hk, rfl, HRk, Ak, ck, HPk⟩ := hrel
        by_cases hlt : k < n
        · gi_wp2_with fail
          have hskl := skip_len R1 (6 + 2 * k)
          have hskl2 := skip_len R1 (6 + 2 * k + 1)
          have k1 := Aside0.mk (Int_calls g B (R1.skip (6 + 2 * k)) wr.drew HRk.out.drew (by omega))
          have k2 : Aside0 (∀ W : World, RdrS W g B (R1.skip (6 + 2 * k + 1)) → Calls Try.prog 29 #[.pointer (some ⟨g, 0, none⟩)] W fun e w' => e = .returned (.int .i64 (R1.nth (6 + 2 * k + 1))) ∧ RdrS w' g B (R1.skip (6 + 2 * (k + 1))) ∧ W.grownBy w' (some g)) := ⟨fun W h => Int_calls g B (R1.skip (6 + 2 * k + 1)) W h (by omega)⟩
          rw [show (R1.skip (6 + 2 * k)).int.1 = R1.nth (6 + 2 * k) from rfl] at k1
          have hst := tiersOf_snoc R1 k
          obtain ⟨f0, hf0⟩ : ∃ f, R1.nth (6 + 2 * k) = f := ⟨_, rfl⟩
          obtain ⟨f1, hf1⟩ : ∃ f, R1.nth (6 + 2 * k + 1) = f := ⟨_, rfl⟩
          rw [show 7 + 2 * k = 6 + 2 * k + 1 by omega, hf0, hf1] at hst
          rw [hf0] at k1
          rw [hf1] at k2
          have HF1 := Aside0.mk hf1
          have HST := Aside0.mk hst
          have HPd := Aside0.mk (HPk.out.below (W' := wr.drew) (below_drew (Below.refl _ _)) HPN.out)
          have c1 := HPk.out.2.1.cell
          have c6 := (cell_of_row wr p 6 _ _ _ HPk.out.2.2.1).trans (rfl : _ = some (Value.slice Ak k ck))
          have S0 : wr.drew.cell? ⟨rb, 0, none⟩ = some (.pointer (some ⟨g, 0, none⟩)) := c1
          have hlk := tiersOf_length R1 k
          clear hskl hskl2 hf0 hf1 hst
          refine wpIn_wide.2 ?_
          refine wp_region_noPanic ?_
          go_region_law (first
            | (refine Kd.R_append_step k55 (w0 := w6) L0 (by rfl) (.tmp 40) (.tmp 46) 23 55 (.agg #[(.int .i64 0), (.int .i64 0)]) 16 rfl Try.underlying23 info55 rfl (by decide) (by omega) (.slice Ak k ck) (tiersOf R1 k) (⟨f0, f1⟩ : S55) [.int .i64 f0, .int .i64 f1] (fun _ => True) (fun _ => False) rfl rfl (k55_mkM _ _ _ (⟨f0, f1⟩ : S55)) (fun _ hk => hk.elim) (fun _ _ => trivial) P6.out.2.2.2.2.2.2 (Below.refl L0 w6) P6.out.2.2.2.2.2.1 (by rw [hlk]; omega) ?_; intro v7 w7 ho hb7 hg7 hat; rw [← HST.out] at ho; obtain ⟨A7, c7, ev⟩ := Kd.R_slice ho; rw [tiersOf_length] at ev; subst ev; have HO7 := Aside0.mk ho; have HB7 := Aside0.mk hb7; have HG7 := Aside0.mk hg7; have c67 := (cell_of_row w7 p 6 _ _ _ ((hb7.block p HPN.out.2.2.2.1).trans P6.out.2.2.1)).trans (rfl : _ = some (Value.slice Ak k ck)); have g67 := blk_frozen ((hb7.block p HPN.out.2.2.2.1).trans P6.out.2.2.1) 6; clear ho hb7 hg7 hat)
            | (go_simp; go_wp2_with (first
            | (go_at_call 29; refine k1.out.mono ?_; rintro e w5 ⟨rfl, hr5, hg5⟩; have HR5 := Aside0.mk hr5; have P5 := Aside0.mk (HPd.out.grown hg5 HPN.out); have S5 := P5.out.2.1.cell; have c65 := (cell_of_row w5 p 6 _ _ _ P5.out.2.2.1).trans (rfl : _ = some (Value.slice Ak k ck)); clear hr5 hg5 k1)
            | (go_at_call 29; refine (k2.out _ HR5.out).mono ?_; rintro e w6 ⟨rfl, hr6, hg6⟩; have HR6 := Aside0.mk hr6; have P6 := Aside0.mk (P5.out.grown hg6 HPN.out);  have c66 := (cell_of_row w6 p 6 _ _ _ P6.out.2.2.1).trans (rfl : _ = some (Value.slice Ak k ck)); have hp6 : p < w6.heap.size := (Array.getElem?_eq_some_iff.1 P6.out.2.2.1).1; clear hr6 hg6 k2))))
          all_goals
            refine NoPanic.normal ?_
            gi_wp2
            go_roundw
            case rel =>
              exact ⟨k + 1, by omega, by go_num, ⟨RdrAt.keep HR6.out (fun j hj _ => (Below.heap_setCell w7 ⟨p, 6, none⟩ _ j (by show j ≠ p; have := hBk j hj; omega)).trans (HB7.out.block j (by have := hBk j hj; obtain ⟨_, _, n3, n4, _⟩ := HPN.out; omega)))⟩, A7, c7, ⟨PK.put P6.out HO7.out HB7.out HG7.out HPN.out rfl⟩⟩
            case measure => first | go_num | (simp [intOf]; omega) | (simp only [intOf]; omega)
        · obtain rfl : k = n := by omega
          have c1 := HPk.out.2.1.cell
          have hskl := skip_len R1 (6 + 2 * k)
          have kd := Aside0.mk (Done_calls g B (R1.skip (6 + 2 * k)) wr HRk.out (by omega))
          have hp0 := HPk.out.2.2.1
          have e0 := (cell_of_row wr p 0 _ _ _ hp0).trans (rfl : _ = some (Value.int .u32 a0))
          have e1 := (cell_of_row wr p 1 _ _ _ hp0).trans (rfl : _ = some (Value.int .i64 (R1.nth 0)))
          have e2 := (cell_of_row wr p 2 _ _ _ hp0).trans (rfl : _ = some (Value.int .i64 (R1.nth 1)))
          have e3 := (cell_of_row wr p 3 _ _ _ hp0).trans (rfl : _ = some (Value.int .i64 (R1.nth 2)))
          have e4 := (cell_of_row wr p 4 _ _ _ hp0).trans (rfl : _ = some (Value.int .i64 (R1.nth 3)))
          have e5 := (cell_of_row wr p 5 _ _ _ hp0).trans (rfl : _ = some (Value.int .i64 (R1.nth 4)))
          have e6 := (cell_of_row wr p 6 _ _ _ hp0).trans (rfl : _ = some (Value.slice Ak k ck))
          clear hskl hp0
          have hpos : 0 ≤ id := by
            have := (uint_lt (⟨l, false⟩ : Rs) hb).1
            rw [hid] at this
            exact this
          have haid : a0 = id := by rw [← ha0]; omega
          have HG : Aside0 (pget l = if (R1.skip (6 + 2 * k)).done = 0 ∧ pchk a0 (R1.nth 0) (R1.nth 1) (R1.nth 2) (R1.nth 3) (R1.nth 4) (tiersOf R1 k) = true then (a0, R1.nth 0, R1.nth 1, R1.nth 2, R1.nth 3, R1.nth 4, tiersOf R1 k, 0) else (0, 0, 0, 0, 0, 0, [], 21)) := ⟨by
            unfold pget
            rw [hid]
            dsimp only
            rw [hN, if_neg (by omega), haid, Int.toNat_natCast]⟩
          clear haid
          by_cases hdn : (R1.skip (6 + 2 * k)).done = 0
          · rw [hdn] at kd
            have hrd := Kd.R_reads' HPk.out.2.2.2.2.2.2
            have kc := Aside0.mk (plan_Check_go a0 (R1.nth 0) (R1.nth 1) (R1.nth 2) (R1.nth 3) (R1.nth 4) Ak ck (tiersOf R1 k) wr hrd.2.2 (by rw [tiersOf_length]; exact hrd.2.1))
            rw [tiersOf_length] at kc
            clear hrd
            obtain ⟨ok, hok⟩ : ∃ b, pchk a0 (R1.nth 0) (R1.nth 1) (R1.nth 2) (R1.nth 3) (R1.nth 4) (tiersOf R1 k) = b := ⟨_, rfl⟩
            have HDN := Aside0.mk hdn
            have HOK := Aside0.mk hok
            rw [hok] at kc
            clear hdn hok
            cases ok with
            | false =>
              have HNO : Aside0 (pget l = (0, 0, 0, 0, 0, 0, [], 21)) := ⟨by rw [HG.out, HOK.out, if_neg (by simp)]⟩
              gi_wp2_with (first
                | (refine ⟨trivial, ?_⟩; gi_at_call 30; refine (callsIn_wide.2 kd.out).mono ?_; rintro e w5 ⟨rfl, rfl⟩)
                | (refine ⟨trivial, ?_⟩; gi_at_call 11; refine (callsIn_wide.2 kc.out).mono ?_; rintro e w5 ⟨rfl, hb5⟩; have P5 := Aside0.mk (HPk.out.below hb5 HPN.out); have fz := fun j => blk_frozen P5.out.1 j; have z0 := (cell_of_row w5 q0 0 _ _ _ P5.out.1).trans (rfl : _ = some (Value.int .u32 0)); have z1 := (cell_of_row w5 q0 1 _ _ _ P5.out.1).trans (rfl : _ = some (Value.int .i64 0)); have z2 := (cell_of_row w5 q0 2 _ _ _ P5.out.1).trans (rfl : _ = some (Value.int .i64 0)); have z3 := (cell_of_row w5 q0 3 _ _ _ P5.out.1).trans (rfl : _ = some (Value.int .i64 0)); have z4 := (cell_of_row w5 q0 4 _ _ _ P5.out.1).trans (rfl : _ = some (Value.int .i64 0)); have z5 := (cell_of_row w5 q0 5 _ _ _ P5.out.1).trans (rfl : _ = some (Value.int .i64 0)); have z6 := (cell_of_row w5 q0 6 _ _ _ P5.out.1).trans (rfl : _ = some (Value.slice none 0 0)); clear hb5 kc kd))
              have hK' := (W7_ko w5 q0 (.int .u32 0) (.int .i64 0) (.int .i64 0) (.int .i64 0) (.int .i64 0) (.int .i64 0) (.slice none 0 0)).same D _ P5.out.2.2.2.1 rfl
              have e3' := W7_put P5.out.1 (.int .u32 0) (.int .i64 0) (.int .i64 0) (.int .i64 0) (.int .i64 0) (.int .i64 0) (.slice none 0 0)
              have hbw := W7_below P5.out.2.2.2.2.1 (Nat.le_refl q0) (.int .u32 0) (.int .i64 0) (.int .i64 0) (.int .i64 0) (.int .i64 0) (.int .i64 0) (.slice none 0 0)
              unfold W7 at hK' e3' hbw
              generalize (((((((w5.setCell ⟨q0, 0, none⟩ (.int .u32 0)).setCell ⟨q0, 1, none⟩ (.int .i64 0)).setCell ⟨q0, 2, none⟩ (.int .i64 0)).setCell ⟨q0, 3, none⟩ (.int .i64 0)).setCell ⟨q0, 4, none⟩ (.int .i64 0)).setCell ⟨q0, 5, none⟩ (.int .i64 0)).setCell ⟨q0, 6, none⟩ (.slice none 0 0)) = Wd at e3' hK' hbw ⊢
              refine ⟨by simp, .inl ⟨_, _, rfl, run_takeDeferred hK', ?_⟩⟩
              have f0 := cell_kept ((cell_of_row Wd q0 0 _ _ _ e3').trans (rfl : _ = some (Value.int .u32 0))) (grownBy_putObj' _ D (.deferred none)) (fun r e => by cases e; exact ⟨_, hK', rfl⟩)
              have f1 := cell_kept ((cell_of_row Wd q0 1 _ _ _ e3').trans (rfl : _ = some (Value.int .i64 0))) (grownBy_putObj' _ D (.deferred none)) (fun r e => by cases e; exact ⟨_, hK', rfl⟩)
              have f2 := cell_kept ((cell_of_row Wd q0 2 _ _ _ e3').trans (rfl : _ = some (Value.int .i64 0))) (grownBy_putObj' _ D (.deferred none)) (fun r e => by cases e; exact ⟨_, hK', rfl⟩)
              have f3 := cell_kept ((cell_of_row Wd q0 3 _ _ _ e3').trans (rfl : _ = some (Value.int .i64 0))) (grownBy_putObj' _ D (.deferred none)) (fun r e => by cases e; exact ⟨_, hK', rfl⟩)
              have f4 := cell_kept ((cell_of_row Wd q0 4 _ _ _ e3').trans (rfl : _ = some (Value.int .i64 0))) (grownBy_putObj' _ D (.deferred none)) (fun r e => by cases e; exact ⟨_, hK', rfl⟩)
              have f5 := cell_kept ((cell_of_row Wd q0 5 _ _ _ e3').trans (rfl : _ = some (Value.int .i64 0))) (grownBy_putObj' _ D (.deferred none)) (fun r e => by cases e; exact ⟨_, hK', rfl⟩)
              have f6 := cell_kept ((cell_of_row Wd q0 6 _ _ _ e3').trans (rfl : _ = some (Value.slice none 0 0))) (grownBy_putObj' _ D (.deferred none)) (fun r e => by cases e; exact ⟨_, hK', rfl⟩)
              refine ⟨.tuple #[.agg #[.int .u32 0, .int .i64 0, .int .i64 0, .int .i64 0, .int .i64 0, .int .i64 0, .slice none 0 0], .int .i64 21], ?_, ?_⟩
              · simp [results, Try.results14, go_sem, f0, f1, f2, f3, f4, f5, f6]
              · rw [HNO.out]
                refine ⟨.slice none 0 0, rfl, Kd.R_nil _ _ _ _ _, ?_⟩
                rw [hq0]
                exact hbw.trans (belowK_b (n₀ := q0) (w := wL) (by omega) Wd D _ (.deferred none) (by omega) hK' rfl rfl)
            | true =>
              have HYES : Aside0 (pget l = (a0, R1.nth 0, R1.nth 1, R1.nth 2, R1.nth 3, R1.nth 4, tiersOf R1 k, 0)) := ⟨by rw [HG.out, HOK.out, if_pos ⟨HDN.out, rfl⟩]⟩
              gi_wp2_with (first
                | (refine ⟨trivial, ?_⟩; gi_at_call 30; refine (callsIn_wide.2 kd.out).mono ?_; rintro e w5 ⟨rfl, rfl⟩)
                | (refine ⟨trivial, ?_⟩; gi_at_call 11; refine (callsIn_wide.2 kc.out).mono ?_; rintro e w5 ⟨rfl, hb5⟩; have P5 := Aside0.mk (HPk.out.below hb5 HPN.out); have fz := fun j => blk_frozen P5.out.1 j; have z0 := (cell_of_row w5 q0 0 _ _ _ P5.out.1).trans (rfl : _ = some (Value.int .u32 0)); have z1 := (cell_of_row w5 q0 1 _ _ _ P5.out.1).trans (rfl : _ = some (Value.int .i64 0)); have z2 := (cell_of_row w5 q0 2 _ _ _ P5.out.1).trans (rfl : _ = some (Value.int .i64 0)); have z3 := (cell_of_row w5 q0 3 _ _ _ P5.out.1).trans (rfl : _ = some (Value.int .i64 0)); have z4 := (cell_of_row w5 q0 4 _ _ _ P5.out.1).trans (rfl : _ = some (Value.int .i64 0)); have z5 := (cell_of_row w5 q0 5 _ _ _ P5.out.1).trans (rfl : _ = some (Value.int .i64 0)); have z6 := (cell_of_row w5 q0 6 _ _ _ P5.out.1).trans (rfl : _ = some (Value.slice none 0 0)); have y0 := (cell_of_row w5 p 0 _ _ _ P5.out.2.2.1).trans (rfl : _ = some (Value.int .u32 a0)); have y1 := (cell_of_row w5 p 1 _ _ _ P5.out.2.2.1).trans (rfl : _ = some (Value.int .i64 (R1.nth 0))); have y2 := (cell_of_row w5 p 2 _ _ _ P5.out.2.2.1).trans (rfl : _ = some (Value.int .i64 (R1.nth 1))); have y3 := (cell_of_row w5 p 3 _ _ _ P5.out.2.2.1).trans (rfl : _ = some (Value.int .i64 (R1.nth 2))); have y4 := (cell_of_row w5 p 4 _ _ _ P5.out.2.2.1).trans (rfl : _ = some (Value.int .i64 (R1.nth 3))); have y5 := (cell_of_row w5 p 5 _ _ _ P5.out.2.2.1).trans (rfl : _ = some (Value.int .i64 (R1.nth 4))); have y6 := (cell_of_row w5 p 6 _ _ _ P5.out.2.2.1).trans (rfl : _ = some (Value.slice Ak k ck)); clear hb5 kc kd))
              have hK' := (W7_ko w5 q0 (.int .u32 a0) (.int .i64 (R1.nth 0)) (.int .i64 (R1.nth 1)) (.int .i64 (R1.nth 2)) (.int .i64 (R1.nth 3)) (.int .i64 (R1.nth 4)) (.slice Ak k ck)).same D _ P5.out.2.2.2.1 rfl
              have e3' := W7_put P5.out.1 (.int .u32 a0) (.int .i64 (R1.nth 0)) (.int .i64 (R1.nth 1)) (.int .i64 (R1.nth 2)) (.int .i64 (R1.nth 3)) (.int .i64 (R1.nth 4)) (.slice Ak k ck)
              have hbw := W7_below P5.out.2.2.2.2.1 (Nat.le_refl q0) (.int .u32 a0) (.int .i64 (R1.nth 0)) (.int .i64 (R1.nth 1)) (.int .i64 (R1.nth 2)) (.int .i64 (R1.nth 3)) (.int .i64 (R1.nth 4)) (.slice Ak k ck)
              have hRw := Kd.R_lower (base' := q0) (Kd.R_step (ok := fun k => L0 ≤ k) (Kd.R_mono (Kd.R_bound P5.out.2.2.2.2.2.2) (fun k hk => hk.2.1)) (fun j hj _ => W7_other w5 q0 (.int .u32 a0) (.int .i64 (R1.nth 0)) (.int .i64 (R1.nth 1)) (.int .i64 (R1.nth 2)) (.int .i64 (R1.nth 3)) (.int .i64 (R1.nth 4)) (.slice Ak k ck) j (by omega))) (by omega)
              unfold W7 at hK' e3' hbw hRw
              generalize (((((((w5.setCell ⟨q0, 0, none⟩ (.int .u32 a0)).setCell ⟨q0, 1, none⟩ (.int .i64 (R1.nth 0))).setCell ⟨q0, 2, none⟩ (.int .i64 (R1.nth 1))).setCell ⟨q0, 3, none⟩ (.int .i64 (R1.nth 2))).setCell ⟨q0, 4, none⟩ (.int .i64 (R1.nth 3))).setCell ⟨q0, 5, none⟩ (.int .i64 (R1.nth 4))).setCell ⟨q0, 6, none⟩ (.slice Ak k ck)) = Wd at e3' hK' hbw hRw ⊢
              refine ⟨by simp, .inl ⟨_, _, rfl, run_takeDeferred hK', ?_⟩⟩
              have f0 := cell_kept ((cell_of_row Wd q0 0 _ _ _ e3').trans (rfl : _ = some (Value.int .u32 a0))) (grownBy_putObj' _ D (.deferred none)) (fun r e => by cases e; exact ⟨_, hK', rfl⟩)
              have f1 := cell_kept ((cell_of_row Wd q0 1 _ _ _ e3').trans (rfl : _ = some (Value.int .i64 (R1.nth 0)))) (grownBy_putObj' _ D (.deferred none)) (fun r e => by cases e; exact ⟨_, hK', rfl⟩)
              have f2 := cell_kept ((cell_of_row Wd q0 2 _ _ _ e3').trans (rfl : _ = some (Value.int .i64 (R1.nth 1)))) (grownBy_putObj' _ D (.deferred none)) (fun r e => by cases e; exact ⟨_, hK', rfl⟩)
              have f3 := cell_kept ((cell_of_row Wd q0 3 _ _ _ e3').trans (rfl : _ = some (Value.int .i64 (R1.nth 2)))) (grownBy_putObj' _ D (.deferred none)) (fun r e => by cases e; exact ⟨_, hK', rfl⟩)
              have f4 := cell_kept ((cell_of_row Wd q0 4 _ _ _ e3').trans (rfl : _ = some (Value.int .i64 (R1.nth 3)))) (grownBy_putObj' _ D (.deferred none)) (fun r e => by cases e; exact ⟨_, hK', rfl⟩)
              have f5 := cell_kept ((cell_of_row Wd q0 5 _ _ _ e3').trans (rfl : _ = some (Value.int .i64 (R1.nth 4)))) (grownBy_putObj' _ D (.deferred none)) (fun r e => by cases e; exact ⟨_, hK', rfl⟩)
              have f6 := cell_kept ((cell_of_row Wd q0 6 _ _ _ e3').trans (rfl : _ = some (Value.slice Ak k ck))) (grownBy_putObj' _ D (.deferred none)) (fun r e => by cases e; exact ⟨_, hK', rfl⟩)
              refine ⟨.tuple #[.agg #[.int .u32 a0, .int .i64 (R1.nth 0), .int .i64 (R1.nth 1), .int .i64 (R1.nth 2), .int .i64 (R1.nth 3), .int .i64 (R1.nth 4), .slice Ak k ck], .int .i64 0], ?_, ?_⟩
              · simp [results, Try.results14, go_sem, f0, f1, f2, f3, f4, f5, f6]
              · rw [HYES.out]
                refine ⟨.slice Ak k ck, rfl, ?_, ?_⟩
                · rw [hq0]
                  show Kd.R k55 55 _ q0 (fun _ => True) (.slice Ak k ck) (tiersOf R1 k)
                  refine Kd.R_mono (Kd.R_step (Kd.R_bound hRw) (fun j hj hlt => ?_)) (fun _ _ => trivial)
                  obtain ⟨_, _, _, _, _, cells, hc⟩ := hj
                  exact World.putObj_heap_other (fun e => by subst e; rw [hK'] at hc; cases hc)
                · rw [hq0]
                  exact hbw.trans (belowK_b (n₀ := q0) (w := wL) (by omega) Wd D _ (.deferred none) (by omega) hK' rfl rfl)
          · have hd21 : (R1.skip (6 + 2 * k)).done = 21 := by
              unfold Rs.done at hdn ⊢
              split at hdn <;> simp_all
            have HNO : Aside0 (pget l = (0, 0, 0, 0, 0, 0, [], 21)) := ⟨by rw [HG.out, if_neg (fun h => hdn h.1)]⟩
            rw [hd21] at kd
            gi_wp2_with (refine ⟨trivial, ?_⟩; gi_at_call 30; refine (callsIn_wide.2 kd.out).mono ?_; rintro e w5 ⟨rfl, rfl⟩)
            refine ⟨trivial, ?_⟩
            have fz := fun j => blk_frozen HPk.out.1 j
            have z0 := (cell_of_row wr q0 0 _ _ _ HPk.out.1).trans (rfl : _ = some (Value.int .u32 0))
            have z1 := (cell_of_row wr q0 1 _ _ _ HPk.out.1).trans (rfl : _ = some (Value.int .i64 0))
            have z2 := (cell_of_row wr q0 2 _ _ _ HPk.out.1).trans (rfl : _ = some (Value.int .i64 0))
            have z3 := (cell_of_row wr q0 3 _ _ _ HPk.out.1).trans (rfl : _ = some (Value.int .i64 0))
            have z4 := (cell_of_row wr q0 4 _ _ _ HPk.out.1).trans (rfl : _ = some (Value.int .i64 0))
            have z5 := (cell_of_row wr q0 5 _ _ _ HPk.out.1).trans (rfl : _ = some (Value.int .i64 0))
            have z6 := (cell_of_row wr q0 6 _ _ _ HPk.out.1).trans (rfl : _ = some (Value.slice none 0 0))
            gi_wp2
            have hK' := (W7_ko wr q0 (.int .u32 0) (.int .i64 0) (.int .i64 0) (.int .i64 0) (.int .i64 0) (.int .i64 0) (.slice none 0 0)).same D _ HPk.out.2.2.2.1 rfl
            have e3' := W7_put HPk.out.1 (.int .u32 0) (.int .i64 0) (.int .i64 0) (.int .i64 0) (.int .i64 0) (.int .i64 0) (.slice none 0 0)
            have hbw := W7_below HPk.out.2.2.2.2.1 (Nat.le_refl q0) (.int .u32 0) (.int .i64 0) (.int .i64 0) (.int .i64 0) (.int .i64 0) (.int .i64 0) (.slice none 0 0)
            unfold W7 at hK' e3' hbw
            generalize (((((((wr.setCell ⟨q0, 0, none⟩ (.int .u32 0)).setCell ⟨q0, 1, none⟩ (.int .i64 0)).setCell ⟨q0, 2, none⟩ (.int .i64 0)).setCell ⟨q0, 3, none⟩ (.int .i64 0)).setCell ⟨q0, 4, none⟩ (.int .i64 0)).setCell ⟨q0, 5, none⟩ (.int .i64 0)).setCell ⟨q0, 6, none⟩ (.slice none 0 0)) = Wd at e3' hK' hbw ⊢
            refine ⟨by simp, .inl ⟨_, _, rfl, run_takeDeferred hK', ?_⟩⟩
            have f0 := cell_kept ((cell_of_row Wd q0 0 _ _ _ e3').trans (rfl : _ = some (Value.int .u32 0))) (grownBy_putObj' _ D (.deferred none)) (fun r e => by cases e; exact ⟨_, hK', rfl⟩)
            have f1 := cell_kept ((cell_of_row Wd q0 1 _ _ _ e3').trans (rfl : _ = some (Value.int .i64 0))) (grownBy_putObj' _ D (.deferred none)) (fun r e => by cases e; exact ⟨_, hK', rfl⟩)
            have f2 := cell_kept ((cell_of_row Wd q0 2 _ _ _ e3').trans (rfl : _ = some (Value.int .i64 0))) (grownBy_putObj' _ D (.deferred none)) (fun r e => by cases e; exact ⟨_, hK', rfl⟩)
            have f3 := cell_kept ((cell_of_row Wd q0 3 _ _ _ e3').trans (rfl : _ = some (Value.int .i64 0))) (grownBy_putObj' _ D (.deferred none)) (fun r e => by cases e; exact ⟨_, hK', rfl⟩)
            have f4 := cell_kept ((cell_of_row Wd q0 4 _ _ _ e3').trans (rfl : _ = some (Value.int .i64 0))) (grownBy_putObj' _ D (.deferred none)) (fun r e => by cases e; exact ⟨_, hK', rfl⟩)
            have f5 := cell_kept ((cell_of_row Wd q0 5 _ _ _ e3').trans (rfl : _ = some (Value.int .i64 0))) (grownBy_putObj' _ D (.deferred none)) (fun r e => by cases e; exact ⟨_, hK', rfl⟩)
            have f6 := cell_kept ((cell_of_row Wd q0 6 _ _ _ e3').trans (rfl : _ = some (Value.slice none 0 0))) (grownBy_putObj' _ D (.deferred none)) (fun r e => by cases e; exact ⟨_, hK', rfl⟩)
            refine ⟨.tuple #[.agg #[.int .u32 0, .int .i64 0, .int .i64 0, .int .i64 0, .int .i64 0, .int .i64 0, .slice none 0 0], .int .i64 21], ?_, ?_⟩
            · simp [results, Try.results14, go_sem, f0, f1, f2, f3, f4, f5, f6]
            · rw [HNO.out]
              refine ⟨.slice none 0 0, rfl, Kd.R_nil _ _ _ _ _, ?_⟩
              rw [hq0]
              exact hbw.trans (belowK_b (n₀ := q0) (w := wL) (by omega) Wd D _ (.deferred none) (by omega) hK' rfl rfl)
  case stop =>
    rintro D c' pre W hD hpre hF hK
    exact hF.elim
end Go.Proofs.Ytifacclmfjmilaa.Ext
