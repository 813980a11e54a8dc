/- plan.Check, proved by walking its code. -/
import Derived.Test.YtifacclmfjmilaaIter
import Derived.Test.YtifacclmfjmilaaChk
namespace Go.Proofs.Ytifacclmfjmilaa.Ext
open Go.RowKit Go.Shelf Go.Proofs.YtifacclmfjmilaaW.PrintWords Go.Proofs.YtifacclmfjmilaaW.PrintLast Go.Proofs.YtifacclmfjmilaaW.PrintMore Go.Proofs.YtifacclmfjmilaaW.Hand Go.Proofs.Ytifacclmfjmilaa.PZ
attribute [local go_sem] Oper.semAt_some
set_option linter.unusedVariables false
set_option maxHeartbeats 1000000 in
theorem numbers_in (m : Nat) (p : Option Addr) (w : World) :
    CallsIn Fence.wide m Try.prog 21 #[.pointer p] w fun e w' => e = .returned (.func (.func 33) #[] #[.pointer (some ⟨w.heap.size, 0, none⟩)]) ∧ w' = w.alloc (.cells #[.pointer p] 51) := by
  refine callsIn_of_wp Try.func21 rfl trivial ?_ rfl
  simp only [Try.ntmps21, List.size_toArray, List.length_cons, List.length_nil, Nat.reduceAdd, Nat.reduceSub, Array.replicate_succ, Array.replicate_zero, List.push_toArray, List.append_toArray, List.nil_append, List.cons_append]
  gi_wp2
  go_ret
  exact ⟨rfl, rfl⟩
theorem numbers_stops (m : Nat) (hn : 1 ≤ m) (Bx Bp : Nat) (wL : World) (hBx : wL.heap[Bx]? = some (Obj.cells #[.pointer (some ⟨Bp, 0, none⟩)] 51 (0, 0))) :
    SeqStopsK Fence.wide m Try.prog 33 #[.pointer (some ⟨Bx, 0, none⟩)] (fun x : N5 => encsN Bp x.1) KpN (fun ys => ys.map Subtype.val = List.range 5) (fun pre => pre.map Subtype.val <+: List.range 5) 5 wL := fun l J Jx W hW hJ hJx hY h0 => by
  have hb := (hW.block Bx (Array.getElem?_eq_some_iff.1 hBx).1).trans hBx
  refine (numbers1_in m hn l Bx Bp (fun pre W => ∃ p : List N5, p.map Subtype.val = pre ∧ J p W) (fun pre W => ∃ p : List N5, p.map Subtype.val = pre ∧ Jx p W) W (fun s A B row hs hg hr => by
    obtain ⟨p, e, hp⟩ := hs
    exact ⟨p, e, hJ p A B row hp hg hr⟩) hb (fun pre x W h1 h2 h3 => ?_) ⟨[], rfl, h0⟩).mono ?_
  · obtain ⟨p, rfl, hp⟩ := h1
    refine YieldAt.mono (hY p ⟨x, h3⟩ W hp (by simpa using h2)) ?_
    rintro e W' (⟨rfl, hj, hk⟩ | ⟨rfl, hj⟩)
    · exact .inl ⟨rfl, ⟨_, by simp, hj⟩, hk⟩
    · exact .inr ⟨rfl, _, by simp, hj⟩
  · rintro e W' ⟨he, h⟩
    refine ⟨he, ?_⟩
    rcases h with ⟨ys, rfl, p, hp, hj⟩ | ⟨pre, hpre, p, rfl, hj⟩
    · exact .inl ⟨p, hp, hj⟩
    · exact .inr ⟨p, hpre, hj⟩
theorem below_weak_ {A B : Nat} {w W : World} (h : Below A w W) (hle : B ≤ A) : Below B w W := ⟨h.os, h.tape, h.output, h.size, fun i hi => h.block i (Nat.lt_of_lt_of_le hi hle)⟩
/-- The numbers of a plan. -/
def numOf (a1 a2 a3 a4 a5 : Int) : Nat → Int
  | 0 => a1
  | 1 => a2
  | 2 => a3
  | 3 => a4
  | _ => a5
def okNum (x : Int) (i : Nat) : Bool := decide (0 ≤ x) && decide (x ≤ mostOf i)
def numsOk (a1 a2 a3 a4 a5 : Int) : Bool := (List.range 5).all fun i => okNum (numOf a1 a2 a3 a4 a5 i) i
/-- May a plan be? -/
def pchk (a0 a1 a2 a3 a4 a5 : Int) (ls : List S55) : Bool := numsOk a1 a2 a3 a4 a5 && (decide (0 < a0) && chk ls)
abbrev planC (a0 a1 a2 a3 a4 a5 : Int) (A : Option Addr) (n c : Nat) : Array Value := #[.int .u32 a0, .int .i64 a1, .int .i64 a2, .int .i64 a3, .int .i64 a4, .int .i64 a5, .slice A n c]
theorem plan_num {W : World} {Bp : Nat} {a0 a1 a2 a3 a4 a5 : Int} {A : Option Addr} {n c : Nat} (h : W.heap[Bp]? = some (Obj.cells (planC a0 a1 a2 a3 a4 a5 A n c) 25 (0, 0))) (i : Nat) (hi : i < 5) :
    W.cell? ⟨Bp, i + 1, none⟩ = some (.int .i64 (numOf a1 a2 a3 a4 a5 i)) := by
  refine (cell_of_row W Bp (i + 1) _ _ _ h).trans ?_
  match i, hi with
  | 0, _ => rfl
  | 1, _ => rfl
  | 2, _ => rfl
  | 3, _ => rfl
  | 4, _ => rfl
theorem blk_own {W W' : World} {row : Option Nat} {B L : Nat} {o : Obj} (h : W.heap[B]? = some o) (ho : o.isCells = true) (hg : W.grownBy W' row) (hr : ∀ r, row = some r → L ≤ r ∧ ∃ o : Obj, W.heap[r]? = some o ∧ o.isCells = false) : W'.heap[B]? = some o :=
  (hg.block B (Array.getElem?_eq_some_iff.1 h).1 (fun e => by
    obtain ⟨_, o2, h2, h3⟩ := hr B e.symm
    rw [h] at h2
    injection h2 with h2
    subst h2
    rw [ho] at h3
    cases h3)).trans h
def AllOk (a1 a2 a3 a4 a5 : Int) (pre : List N5) : Prop := ∀ i ∈ pre, okNum (numOf a1 a2 a3 a4 a5 i.1) i.1 = true
theorem AllOk.snoc {a1 a2 a3 a4 a5 : Int} {pre : List N5} {x : N5} (h : AllOk a1 a2 a3 a4 a5 pre) (hx : okNum (numOf a1 a2 a3 a4 a5 x.1) x.1 = true) : AllOk a1 a2 a3 a4 a5 (pre ++ [x]) := fun j hj => by
  rcases List.mem_append.1 hj with h1 | h1
  · exact h j h1
  · rw [List.mem_singleton] at h1
    subst h1
    exact hx
theorem AllOk.all {a1 a2 a3 a4 a5 : Int} {ys : List N5} (h : AllOk a1 a2 a3 a4 a5 ys) (hy : ys.map Subtype.val = List.range 5) : numsOk a1 a2 a3 a4 a5 = true := by
  unfold numsOk
  rw [List.all_eq_true]
  intro i hi
  rw [← hy] at hi
  obtain ⟨j, hj, rfl⟩ := List.mem_map.1 hi
  exact h j hj
set_option maxRecDepth 100000 in
set_option maxHeartbeats 3200000 in
theorem plan_Check_go (a0 a1 a2 a3 a4 a5 : Int) (A : Option Addr) (c : Nat) (ls : List S55) (w : World) (hC : Kd.C k55 w A ls.length ls) (hcap : ls.length ≤ c) :
    Calls Try.prog 11 #[.agg #[.int .u32 a0, .int .i64 a1, .int .i64 a2, .int .i64 a3, .int .i64 a4, .int .i64 a5, .slice A ls.length c]] w fun e w' => e = .returned (.bool (pchk a0 a1 a2 a3 a4 a5 ls)) ∧ Below w.heap.size w w' := by
  have kc := Aside0.mk (fun (w : World) (hC : Kd.C k55 w A ls.length ls) => tiers_Check.calls A c ls (chk ls) w hC hcap rfl)
  have HC := Aside0.mk hC
  clear hC hcap
  refine (callsIn_wide (n := 5)).1 ?_
  refine callsIn_of_wp_marks Try.func11 rfl trivial ?_ rfl
  simp only [Try.ntmps11, List.size_toArray, List.length_cons, List.length_nil, Nat.reduceAdd, Nat.reduceSub, Array.replicate_succ, Array.replicate_zero, List.push_toArray, List.append_toArray, List.nil_append, List.cons_append]
  gi_wp2_with fail
  refine ⟨trivial, ?_⟩
  refine (numbers_in _ _ _).mono ?_
  rintro e w2 ⟨rfl, rfl⟩
  gi_wp2_with fail
  have bP : ((((w.alloc (.cells #[.int .u32 a0, .int .i64 a1, .int .i64 a2, .int .i64 a3, .int .i64 a4, .int .i64 a5, .slice A ls.length c] 25)).alloc (.cells #[.bool false] 4)).alloc (.cells #[.pointer (some ⟨w.heap.size, 0, none⟩)] 51))).heap[w.heap.size]? = some (Obj.cells #[.int .u32 a0, .int .i64 a1, .int .i64 a2, .int .i64 a3, .int .i64 a4, .int .i64 a5, .slice A ls.length c] 25 (0, 0)) :=
    (Blk.alloc (Blk.alloc (Blk.new_ (W := w) (o := .cells #[.int .u32 a0, .int .i64 a1, .int .i64 a2, .int .i64 a3, .int .i64 a4, .int .i64 a5, .slice A ls.length c] 25)))).out
  have bR := (Boxed.new (w.alloc (.cells #[.int .u32 a0, .int .i64 a1, .int .i64 a2, .int .i64 a3, .int .i64 a4, .int .i64 a5, .slice A ls.length c] 25)) 4 (.bool false)).alloc (.cells #[.pointer (some ⟨w.heap.size, 0, none⟩)] 51)
  have bX := Boxed.new ((w.alloc (.cells #[.int .u32 a0, .int .i64 a1, .int .i64 a2, .int .i64 a3, .int .i64 a4, .int .i64 a5, .slice A ls.length c] 25)).alloc (.cells #[.bool false] 4)) 51 (.pointer (some ⟨w.heap.size, 0, none⟩))
  rw [World.size_alloc, World.size_alloc] at bX
  rw [World.size_alloc] at bR
  have hB1 : Below w.heap.size w (((w.alloc (.cells #[.int .u32 a0, .int .i64 a1, .int .i64 a2, .int .i64 a3, .int .i64 a4, .int .i64 a5, .slice A ls.length c] 25)).alloc (.cells #[.bool false] 4)).alloc (.cells #[.pointer (some ⟨w.heap.size, 0, none⟩)] 51)) := below_alloc (below_alloc (below_alloc (Below.refl _ _) _) _) _
  have hsz : (((w.alloc (.cells #[.int .u32 a0, .int .i64 a1, .int .i64 a2, .int .i64 a3, .int .i64 a4, .int .i64 a5, .slice A ls.length c] 25)).alloc (.cells #[.bool false] 4)).alloc (.cells #[.pointer (some ⟨w.heap.size, 0, none⟩)] 51)).heap.size = w.heap.size + 3 := by simp
  obtain ⟨wL, hwL⟩ : ∃ W, (((w.alloc (.cells #[.int .u32 a0, .int .i64 a1, .int .i64 a2, .int .i64 a3, .int .i64 a4, .int .i64 a5, .slice A ls.length c] 25)).alloc (.cells #[.bool false] 4)).alloc (.cells #[.pointer (some ⟨w.heap.size, 0, none⟩)] 51)) = W := ⟨_, rfl⟩
  rw [hwL]
  rw [hwL] at bP bR bX hB1 hsz
  clear hwL
  obtain ⟨q, hq⟩ : ∃ q, w.heap.size = q := ⟨_, rfl⟩
  rw [hq] at bP bR bX hB1 hsz ⊢
  obtain ⟨L0, hL0⟩ : ∃ L, wL.heap.size = L := ⟨_, rfl⟩
  refine wpIn_rangeFunc_ownF rfl (by omega) (gf := 33) (lb := #[.pointer (some ⟨q + 1 + 1, 0, none⟩)]) rfl trivial (enters_of Try.func33 (by kernel_rfl) rfl)
    (numbers_stops _ (by omega) (q + 1 + 1) q wL bX) KpN.trans (fun W l o o' _ h hc _ => kpn_b W l o o' h hc) (Below.refl _ _) (fun _ => rfl)
    (fun pre W => AllOk a1 a2 a3 a4 a5 pre ∧ W.heap[q]? = some (Obj.cells #[.int .u32 a0, .int .i64 a1, .int .i64 a2, .int .i64 a3, .int .i64 a4, .int .i64 a5, .slice A ls.length c] 25 (0, 0)) ∧ W.heap[q + 1]? = some (Obj.cells #[.bool false] 4 (0, 0)) ∧ Below q w W)
    (fun c' pre W => c' = .ret ∧ numsOk a1 a2 a3 a4 a5 = false ∧ W.heap[q + 1]? = some (Obj.cells #[.bool false] 4 (0, 0)) ∧ Below q w W)
    (fun pre W W' row ⟨h1, h2, h3, h4⟩ hg hr => ⟨h1, blk_own h2 rfl hg hr, blk_own h3 rfl hg hr, h4.grown hg (by have := h4.size; omega) (fun k e => by have := (hr k e).1; omega)⟩)
    (fun c' pre W W' row ⟨h1, h2, h3, h4⟩ hg hr => ⟨h1, h2, blk_own h3 rfl hg hr, h4.grown hg (by have := h4.size; omega) (fun k e => by have := (hr k e).1; omega)⟩)
    ⟨fun i hi => (by cases hi), bP, bR, hB1⟩
    (fun x => { tmps := #[.agg #[.int .u32 a0, .int .i64 a1, .int .i64 a2, .int .i64 a3, .int .i64 a4, .int .i64 a5, .slice A ls.length c], .pointer (some ⟨q, 0, none⟩), .pointer (some ⟨q + 1, 0, none⟩), .pointer (some ⟨q, x.1 + 1, none⟩), .int .i64 (mostOf x.1), .func (.func 33) #[] #[.pointer (some ⟨q + 1 + 1, 0, none⟩)], .pointer (some ⟨q, x.1 + 1, none⟩), .int .i64 (mostOf x.1), undef, undef, undef, undef, undef, undef, undef, undef, undef, undef, undef, undef, undef, undef, undef, undef, undef, undef, undef], defers := [] }) ?assign ?body ?done ?stop
  case assign =>
    intro l x W K hK
    gi_wp2
    exact hK
  case body =>
    rintro l pre ⟨i, hi5⟩ W ⟨h1, h2, h3, h4⟩ hlt
    have hx := plan_num h2 i hi5
    have c3 := (cell_of_row W (q + 1) 0 _ _ _ h3).trans (rfl : _ = some (Value.bool false))
    have g3 : W.frozen? ⟨q + 1, 0, none⟩ = false := blk_frozen h3 0
    have H1 := Aside0.mk h1
    have H2 := Aside0.mk h2
    have H3 := Aside0.mk h3
    have H4 := Aside0.mk h4
    clear h1 h2 h3 h4
    obtain ⟨v, hv⟩ : ∃ v, numOf a1 a2 a3 a4 a5 i = v := ⟨_, rfl⟩
    obtain ⟨M, hM⟩ : ∃ M, mostOf i = M := ⟨_, rfl⟩
    rw [hv] at hx
    dsimp only
    rw [hM]
    have hbad : okNum v i = false → numsOk a1 a2 a3 a4 a5 = false := fun hb => by
      unfold numsOk
      rw [List.all_eq_false]
      exact ⟨i, List.mem_range.2 hi5, by rw [hv, hb]; decide⟩
    have HV := Aside0.mk hv
    by_cases c1 : v < 0
    · have HN := Aside0.mk (hbad (by unfold okNum; rw [decide_eq_false (by omega)]; rfl))
      clear hbad hv hM
      gi_wp2
      exact ⟨(KeepsOthers.setCell _ _ _), rfl, HN.out, blk_put H3.out 0 _ rfl, H4.out.setCell (by show q ≤ q + 1; omega) _⟩
    · by_cases c2 : M < v
      · have HN := Aside0.mk (hbad (by unfold okNum; rw [hM, decide_eq_false (show ¬ v ≤ M by omega), Bool.and_false]))
        clear hbad hv hM
        gi_wp2
        exact ⟨(KeepsOthers.setCell _ _ _), rfl, HN.out, blk_put H3.out 0 _ rfl, H4.out.setCell (by show q ≤ q + 1; omega) _⟩
      · have HN : Aside0 (okNum v i = true) := ⟨by unfold okNum; rw [hM, decide_eq_true (show 0 ≤ v by omega), decide_eq_true (show v ≤ M by omega)]; rfl⟩
        clear hbad hv hM
        gi_wp2
        exact ⟨KeepsOthers.refl _, KpN.refl _, H1.out.snoc (by rw [HV.out]; exact HN.out), H2.out, H3.out, H4.out⟩
  case done =>
    rintro D ys W hD hys ⟨h1, h2, h3, h4⟩ hK
    have HN := Aside0.mk (h1.all hys)
    have cI := (cell_of_row W q 0 _ _ _ h2).trans (rfl : _ = some (Value.int .u32 a0))
    have cT := (cell_of_row W q 6 _ _ _ h2).trans (rfl : _ = some (Value.slice A ls.length c))
    have c3 := (cell_of_row W (q + 1) 0 _ _ _ h3).trans (rfl : _ = some (Value.bool false))
    have g3 : W.frozen? ⟨q + 1, 0, none⟩ = false := blk_frozen h3 0
    have H3 := Aside0.mk h3
    have H4 := Aside0.mk h4
    have HK := Aside0.mk hK
    have hDL : L0 ≤ D := by omega
    have hWD : D < W.heap.size := (Array.getElem?_eq_some_iff.1 hK).1
    clear h1 h2 h3 h4 hys hK
    by_cases hI : 0 < a0
    · have HP : Aside0 (pchk a0 a1 a2 a3 a4 a5 ls = chk ls) := ⟨by unfold pchk; rw [HN.out, decide_eq_true hI]; rfl⟩
      gi_wp2_with fail
      refine ⟨trivial, callsIn_wide.2 ?_⟩
      refine (kc.out _ (Kd.C_below HC.out (hq ▸ H4.out))).mono ?_
      rintro e w3 ⟨rfl, hb⟩
      have h3 := (hb.block (q + 1) (Array.getElem?_eq_some_iff.1 H3.out).1).trans H3.out
      have c3' := (cell_of_row w3 (q + 1) 0 _ _ _ h3).trans (rfl : _ = some (Value.bool false))
      have g3' : w3.frozen? ⟨q + 1, 0, none⟩ = false := blk_frozen h3 0
      have h5 := (hb.block D hWD).trans HK.out
      have H5 := Aside0.mk h5
      have H3b := Aside0.mk h3
      have HB := Aside0.mk (H4.out.trans (below_weak_ hb (by have := H4.out.size; omega)))
      clear hb h3 h5
      gi_wp2_with fail
      have hK' := (KeepsOthers.setCell w3 ⟨q + 1, 0, none⟩ (.bool (chk ls))).same D _ H5.out rfl
      have e3 : (w3.setCell ⟨q + 1, 0, none⟩ (.bool (chk ls))).heap[q + 1]? = some (Obj.cells #[.bool (chk ls)] 4 (0, 0)) := blk_put H3b.out 0 (.bool (chk ls)) rfl
      have hb : Below q w (w3.setCell ⟨q + 1, 0, none⟩ (.bool (chk ls))) := HB.out.setCell (by show q ≤ q + 1; omega) _
      generalize (w3.setCell ⟨q + 1, 0, none⟩ (.bool (chk ls))) = Wd at e3 hK' hb ⊢
      refine ⟨by simp, .inl ⟨_, _, rfl, run_takeDeferred hK', ?_⟩⟩
      have f4 := cell_kept ((cell_of_row Wd (q + 1) 0 _ _ _ e3).trans (rfl : _ = some (Value.bool (chk ls)))) (grownBy_putObj' _ D (.deferred none)) (fun r e => by cases e; exact ⟨_, hK', rfl⟩)
      refine ⟨.bool (chk ls), ?_, by rw [HP.out], ?_⟩
      · simp [results, Try.results11, go_sem, f4]
      · rw [hq]
        exact hb.trans (belowK_b (n₀ := q) (w := wL) (by omega) Wd D _ (.deferred none) (by omega) hK' rfl rfl)
    · have HP : Aside0 (pchk a0 a1 a2 a3 a4 a5 ls = false) := ⟨by unfold pchk; rw [HN.out, decide_eq_false hI]; rfl⟩
      gi_wp2_with fail
      refine ⟨trivial, ?_⟩
      gi_wp2_with fail
      have hK' := (KeepsOthers.setCell W ⟨q + 1, 0, none⟩ (.bool (false))).same D _ HK.out rfl
      have e3 : (W.setCell ⟨q + 1, 0, none⟩ (.bool (false))).heap[q + 1]? = some (Obj.cells #[.bool (false)] 4 (0, 0)) := blk_put H3.out 0 (.bool (false)) rfl
      have hb : Below q w (W.setCell ⟨q + 1, 0, none⟩ (.bool (false))) := H4.out.setCell (by show q ≤ q + 1; omega) _
      generalize (W.setCell ⟨q + 1, 0, none⟩ (.bool (false))) = Wd at e3 hK' hb ⊢
      refine ⟨by simp, .inl ⟨_, _, rfl, run_takeDeferred hK', ?_⟩⟩
      have f4 := cell_kept ((cell_of_row Wd (q + 1) 0 _ _ _ e3).trans (rfl : _ = some (Value.bool (false)))) (grownBy_putObj' _ D (.deferred none)) (fun r e => by cases e; exact ⟨_, hK', rfl⟩)
      refine ⟨.bool (false), ?_, by rw [HP.out], ?_⟩
      · simp [results, Try.results11, go_sem, f4]
      · rw [hq]
        exact hb.trans (belowK_b (n₀ := q) (w := wL) (by omega) Wd D _ (.deferred none) (by omega) hK' rfl rfl)
  case stop =>
    rintro D c' pre W hD hpre ⟨rfl, h2, h3, h4⟩ hK
    have HN := Aside0.mk h2
    have H3 := Aside0.mk h3
    have H4 := Aside0.mk h4
    have HK := Aside0.mk hK
    clear h2 h3 h4 hpre hK
    gi_wp2
    refine ⟨by simp, .inl ⟨_, _, rfl, run_takeDeferred HK.out, ?_⟩⟩
    have f4 := cell_kept ((cell_of_row W (q + 1) 0 _ _ _ H3.out).trans (rfl : _ = some (Value.bool false))) (grownBy_putObj' _ D (.deferred none)) (fun r e => by cases e; exact ⟨_, HK.out, rfl⟩)
    refine ⟨.bool false, ?_, by unfold pchk; rw [HN.out]; rfl, ?_⟩
    · simp [results, Try.results11, go_sem, f4]
    · rw [hq]
      exact H4.out.trans (belowK_b (n₀ := q) (w := wL) (by omega) W D _ (.deferred none) (by omega) HK.out rfl rfl)
end Go.Proofs.Ytifacclmfjmilaa.Ext
