import Derived.Test.YtanjkhdagegapaaG1
import Derived.Test.YtanjkhdagegapaaG3
import Derived.Laws.EntriesVeiled
import Derived.Laws.RangeAny
import Derived.Lib.OthersKept
import Derived.Deep.RegionHeld3
section
/- A plan as a field of a request: put, taken, asked. -/
namespace Go.Proofs.Ytanjkhdagegapaa.Ext
open Go.RowKit Go.MapKept Go.Shelf Go.Proofs.YtanjkhdagegapaaW.PrintWords Go.Proofs.YtanjkhdagegapaaW.PrintLast Go.Proofs.YtanjkhdagegapaaW.PrintMore Go.Proofs.YtanjkhdagegapaaW.Hand Go.Proofs.Ytanjkhdagegapaa.PZ
set_option linter.unusedVariables false
/-- The plan's bytes, of a request. -/
def rqPut (x : RQ) : List Int × Int := pput x.f8.f0 x.f8.f1 x.f8.f2 x.f8.f3 x.f8.f4 x.f8.f5 x.f8.f6
def rqChk (x : RQ) : Bool := pchk x.f8.f0 x.f8.f1 x.f8.f2 x.f8.f3 x.f8.f4 x.f8.f5 x.f8.f6
theorem chk_of_pchk {a0 a1 a2 a3 a4 a5 : Int} {ls : List S39} (h : pchk a0 a1 a2 a3 a4 a5 ls = true) : chk ls = true := by
  unfold pchk at h
  simp only [Bool.and_eq_true] at h
  exact h.2.2
theorem pput_len (a0 a1 a2 a3 a4 a5 : Int) (ls : List S39) : (pput a0 a1 a2 a3 a4 a5 ls).1.length ≤ 120 := by
  unfold pput
  by_cases h : pchk a0 a1 a2 a3 a4 a5 ls = true
  · rw [if_pos h]
    have h4 := (chk_range (chk_of_pchk h)).1
    show (bytes8 _).length ≤ 120
    rw [bytes8_length]
    unfold planNums
    rw [List.length_append, tierNums_length]
    simp only [List.length_cons, List.length_nil]
    omega
  · rw [if_neg h]; simp
theorem rqPut_len (x : RQ) : (rqPut x).1.length ≤ 120 := pput_len _ _ _ _ _ _ _
set_option maxRecDepth 100000 in
theorem may_x (x : RQ) (A2 : Option Addr) (c2 : Nat) (w : World) (hC : Kd.C k39 w A2 x.f8.f6.length x.f8.f6) (hc : x.f8.f6.length ≤ c2) :
    Calls Try.prog 78 #[.agg (rqC x A2 x.f8.f6.length c2)] w fun e w' => e = .returned (.bool (rqChk x)) ∧ Below w.heap.size w w' := by
  have kc := Aside0.mk (plan_Check_go x.f8.f0 x.f8.f1 x.f8.f2 x.f8.f3 x.f8.f4 x.f8.f5 A2 c2 x.f8.f6 _ (Kd.C_alloc hC (.cells (rqC x A2 x.f8.f6.length c2) 27)) hc)
  have HL := Aside0.mk (below_alloc (Below.refl _ w) (.cells (rqC x A2 x.f8.f6.length c2) 27))
  clear hC hc
  go_enter Try.func78, Try.ntmps78
  go_wp2_with (go_at_call 79; (with_reducible refine kc.out.mono ?_); rintro e w1 ⟨rfl, hb⟩; have HB := Aside0.mk (below_step HL.out hb); clear hb)
  go_ret
  exact ⟨rfl, HB.out⟩
set_option maxRecDepth 100000 in
set_option maxHeartbeats 800000 in
theorem put_x (A : Option Addr) (c : Nat) (l : List Int) (x : RQ) (A2 : Option Addr) (c2 : Nat) (w : World) (hr : Kd.C (Kd.int .u8) w A l.length l) (hl : l.length ≤ 100000000) (hC : Kd.C k39 w A2 x.f8.f6.length x.f8.f6) (hc : x.f8.f6.length ≤ c2) :
    Calls Try.prog 76 #[.slice A l.length c, .agg (rqC x A2 x.f8.f6.length c2)] w fun e w' => ∃ v0 : Value, e = .returned v0 ∧ Kd.R (Kd.int .u8) 5 w' w.heap.size (fun _ => True) v0 (l ++ beN 4 (rqPut x).1.length ++ (rqPut x).1) ∧ Below w.heap.size w w' := by
  have kc := Aside0.mk (plan_Put_go x.f8.f0 x.f8.f1 x.f8.f2 x.f8.f3 x.f8.f4 x.f8.f5 A2 c2 x.f8.f6 _ (Kd.C_alloc hC (.cells (rqC x A2 x.f8.f6.length c2) 27)) hc)
  have HL := Aside0.mk (below_alloc (Below.refl _ w) (.cells (rqC x A2 x.f8.f6.length c2) 27))
  have HR := Aside0.mk (Kd.C_alloc hr (.cells (rqC x A2 x.f8.f6.length c2) 27))
  have hlen := rqPut_len x
  rw [show pput x.f8.f0 x.f8.f1 x.f8.f2 x.f8.f3 x.f8.f4 x.f8.f5 x.f8.f6 = rqPut x from rfl] at kc
  obtain ⟨⟨s, er⟩, hs⟩ : ∃ s, rqPut x = s := ⟨_, rfl⟩
  rw [hs] at kc hlen ⊢
  clear hC hc hr hs
  dsimp only at kc hlen ⊢
  go_enter Try.func76, Try.ntmps76
  go_wp2_with fail
  (with_reducible refine kc.out.mono ?_)
  rintro e w1 ⟨v1, rfl, hr1, hb1⟩
  obtain ⟨A1, c1, rfl⟩ := Kd.R_slice hr1
  have HR1 := Aside0.mk (Kd.R_reads' hr1).2.2
  have HR0 := Aside0.mk (Kd.C_below HR.out hb1)
  have HL1 := Aside0.mk (below_step HL.out hb1)
  have hl1 : l.length + s.length ≤ 140737488355000 := by omega
  clear hr1 hb1
  go_wp2_with (go_at_call 45; (with_reducible refine (Text_any A c l A1 c1 s _ HR0.out HR1.out hl1).mono ?_); rintro e w2 ⟨v0, rfl, ho, hb⟩; have HO := Aside0.mk (Kd.R_lower (base' := w.heap.size) ho HL1.out.size); have HB := Aside0.mk (below_step HL1.out hb); clear ho hb)
  go_ret
  exact ⟨_, rfl, HO.out, HB.out⟩
theorem text_sub (r : Rs) : (∀ v ∈ r.text.1, v ∈ r.xs) ∧ r.text.1.length ≤ r.xs.length := by
  have h4 : ∀ v ∈ r.len4.2.xs, v ∈ r.xs := by
    unfold Rs.len4 Rs.take
    by_cases h : r.bad = true ∨ r.xs.length < 4
    · rw [if_pos h]; exact fun v hv => hv
    · rw [if_neg h]; exact fun v hv => List.mem_of_mem_drop hv
  have l4 : r.len4.2.xs.length ≤ r.xs.length := by
    unfold Rs.len4 Rs.take
    by_cases h : r.bad = true ∨ r.xs.length < 4
    · rw [if_pos h]; exact Nat.le_refl _
    · rw [if_neg h]; simp
  unfold Rs.text
  generalize r.len4 = q at h4 l4 ⊢
  obtain ⟨n, q⟩ := q
  dsimp only at h4 l4 ⊢
  unfold Rs.take
  by_cases h : q.bad = true ∨ q.xs.length < n.toNat
  · rw [if_pos h]; exact ⟨fun v hv => by simp at hv, by simp⟩
  · rw [if_neg h]
    exact ⟨fun v hv => h4 v (List.mem_of_mem_take hv), by simp only [List.length_take]; omega⟩
/-- Behind a plan that was taken. -/
def rsPlan (x : RQ) (rs : Rs) : RQ × Rs :=
  ({ x with f8 := ⟨(pget rs.text.1).1, (pget rs.text.1).2.1, (pget rs.text.1).2.2.1, (pget rs.text.1).2.2.2.1, (pget rs.text.1).2.2.2.2.1, (pget rs.text.1).2.2.2.2.2.1, (pget rs.text.1).2.2.2.2.2.2.1⟩ }, if (pget rs.text.1).2.2.2.2.2.2.2 = 0 then rs.text.2 else ⟨rs.text.2.xs, true⟩)
abbrev X7 (W : World) (q : Nat) (v0 v1 v2 v3 v4 v5 v6 : Value) : World := (((((((W.setCell ⟨q, 8, none⟩ v0).setCell ⟨q, 9, none⟩ v1).setCell ⟨q, 10, none⟩ v2).setCell ⟨q, 11, none⟩ v3).setCell ⟨q, 12, none⟩ v4).setCell ⟨q, 13, none⟩ v5).setCell ⟨q, 14, none⟩ v6)
theorem X7_put {W : World} {q t : Nat} {y0 y1 y2 y3 y4 y5 y6 y7 x0 x1 x2 x3 x4 x5 x6 : Value} (h : W.heap[q]? = some (Obj.cells #[y0, y1, y2, y3, y4, y5, y6, y7, x0, x1, x2, x3, x4, x5, x6] t (0, 0))) (v0 v1 v2 v3 v4 v5 v6 : Value) : (X7 W q v0 v1 v2 v3 v4 v5 v6).heap[q]? = some (Obj.cells #[y0, y1, y2, y3, y4, y5, y6, y7, v0, v1, v2, v3, v4, v5, v6] t (0, 0)) := by
  unfold X7
  have h0 := blk_put h 8 v0 (rfl : _ = #[y0, y1, y2, y3, y4, y5, y6, y7, v0, x1, x2, x3, x4, x5, x6])
  generalize W.setCell ⟨q, 8, none⟩ v0 = W1 at *
  have h1 := blk_put h0 9 v1 (rfl : _ = #[y0, y1, y2, y3, y4, y5, y6, y7, v0, v1, x2, x3, x4, x5, x6])
  generalize W1.setCell ⟨q, 9, none⟩ v1 = W2 at *
  have h2 := blk_put h1 10 v2 (rfl : _ = #[y0, y1, y2, y3, y4, y5, y6, y7, v0, v1, v2, x3, x4, x5, x6])
  generalize W2.setCell ⟨q, 10, none⟩ v2 = W3 at *
  have h3 := blk_put h2 11 v3 (rfl : _ = #[y0, y1, y2, y3, y4, y5, y6, y7, v0, v1, v2, v3, x4, x5, x6])
  generalize W3.setCell ⟨q, 11, none⟩ v3 = W4 at *
  have h4 := blk_put h3 12 v4 (rfl : _ = #[y0, y1, y2, y3, y4, y5, y6, y7, v0, v1, v2, v3, v4, x5, x6])
  generalize W4.setCell ⟨q, 12, none⟩ v4 = W5 at *
  have h5 := blk_put h4 13 v5 (rfl : _ = #[y0, y1, y2, y3, y4, y5, y6, y7, v0, v1, v2, v3, v4, v5, x6])
  generalize W5.setCell ⟨q, 13, none⟩ v5 = W6 at *
  exact blk_put h5 14 v6 rfl
theorem X7_kpt (W : World) (g q : Nat) (v0 v1 v2 v3 v4 v5 v6 : Value) : Kpt g q W (X7 W q v0 v1 v2 v3 v4 v5 v6) :=
  ((((((Kpt.set W 8 v0).trans (Kpt.set _ 9 v1)).trans (Kpt.set _ 10 v2)).trans (Kpt.set _ 11 v3)).trans (Kpt.set _ 12 v4)).trans (Kpt.set _ 13 v5)).trans (Kpt.set _ 14 v6)
theorem X7_other (W : World) (q : Nat) (v0 v1 v2 v3 v4 v5 v6 : Value) (k : Nat) (hk : k ≠ q) : (X7 W q v0 v1 v2 v3 v4 v5 v6).heap[k]? = W.heap[k]? := by
  unfold X7
  rw [Below.heap_setCell _ _ _ _ (show k ≠ q from hk), Below.heap_setCell _ _ _ _ (show k ≠ q from hk), Below.heap_setCell _ _ _ _ (show k ≠ q from hk), Below.heap_setCell _ _ _ _ (show k ≠ q from hk), Below.heap_setCell _ _ _ _ (show k ≠ q from hk), Below.heap_setCell _ _ _ _ (show k ≠ q from hk), Below.heap_setCell _ _ _ _ (show k ≠ q from hk)]
def TxPost (g X : Nat) (B : Nat → Prop) (w : World) (x : RQ) (rs : Rs) (e : Ending) (w' : World) : Prop :=
  ∃ (A : Option Addr) (c : Nat), e = .returned (.tuple #[]) ∧ RdrS w' g B rs ∧ w'.heap[X]? = some (.cells (rqC x A x.f8.f6.length c) 27 (0, 0)) ∧ Kpt g X w w' ∧ Kd.R k39 39 w' w.heap.size (fun k => k ≠ g ∧ k ≠ X) (.slice A x.f8.f6.length c) x.f8.f6
theorem gbelow {w w1 : World} {g X : Nat} (h : Below w.heap.size w w1) : Kpt g X w w1 := Kpt.of_below h
theorem plan_R_new {w w1 w2 : World} {g X : Nat} {ok : Nat → Prop} {v : Value} {ls : List S39} (h : Kd.R k39 39 w2 w1.heap.size ok v ls) (h1 : w.heap.size ≤ w1.heap.size) (hg : g < w.heap.size) (hX : X < w.heap.size) :
    Kd.R k39 39 w2 w.heap.size (fun k => (k ≠ g ∧ k ≠ X) ∧ k < w2.heap.size) v ls :=
  Kd.R_mono (Kd.R_lower (Kd.R_bound h) h1) (fun k hk => ⟨⟨by have := hk.2.1; omega, by have := hk.2.1; omega⟩, hk.2.2.1⟩)
set_option maxRecDepth 100000 in
set_option maxHeartbeats 3200000 in
theorem take_x (g X : Nat) (B : Nat → Prop) (A : Option Addr) (n c : Nat) (x : RQ) (rs : Rs) (w : World) (hr : RdrS w g B rs) (hm : rs.xs.length ≤ 140737488353000) (hX : w.heap[X]? = some (.cells (rqC x A n c) 27 (0, 0))) (hB : ∀ k, B k → k ≠ X) :
    Calls Try.prog 77 #[.pointer (some ⟨g, 0, none⟩), .pointer (some ⟨X, 0, none⟩)] w (TxPost g X B w (rsPlan x rs).1 (rsPlan x rs).2) := by
  have HR := Aside0.mk hr
  have HX := Aside0.mk hX
  have hm2 : rs.xs.length ≤ 140737488355000 := by omega
  have hXg : X ≠ g := fun e => hB g (rdr_g hr) e.symm
  have hgl : g < w.heap.size := by obtain ⟨_, _, h1, _⟩ := hr; exact h1.lt
  have hXl : X < w.heap.size := (Array.getElem?_eq_some_iff.1 hX).1
  have HB := Aside0.mk hB
  have hbt : Aside0 (∀ v ∈ rs.text.1, IsByte v) := ⟨fun v hv => RdrS.bytes hr v ((text_sub rs).1 v hv)⟩
  have hlt : rs.text.1.length ≤ 140737488354000 := by have := (text_sub rs).2; omega
  have KT := Aside0.mk (Text_calls g B rs w hr hm2)
  unfold rsPlan
  obtain ⟨⟨s, r1⟩, hs⟩ : ∃ s, rs.text = s := ⟨_, rfl⟩
  rw [hs] at KT hbt hlt ⊢
  clear hr hX hB hs
  dsimp only at KT hbt hlt ⊢
  obtain ⟨⟨q0, q1, q2, q3, q4, q5, ls, er⟩, hq⟩ : ∃ q, pget s = q := ⟨_, rfl⟩
  have HQ := Aside0.mk hq
  rw [hq]
  clear hq
  dsimp only
  obtain ⟨r2, hr2⟩ : ∃ r2, (if er = 0 then r1 else ⟨r1.xs, true⟩) = r2 := ⟨_, rfl⟩
  rw [hr2]
  have HE := Aside0.mk hr2
  clear hr2
  go_enter Try.func77, Try.ntmps77
  go_wp2_with fail
  (with_reducible refine KT.out.mono ?_)
  rintro e w1 ⟨v0, rfl, hv1, hr1, hg1⟩
  obtain ⟨A1, c1, rfl⟩ := Kd.R_slice hv1
  have KG := Aside0.mk (plan_Get_go A1 c1 s w1 (Kd.R_reads' hv1).2.2 hbt.out hlt)
  rw [HQ.out] at KG
  have HR1 := Aside0.mk hr1
  have HG1 := Aside0.mk hg1
  have hsz1 : w.heap.size ≤ w1.heap.size := hg1.size
  clear hr1 hv1 hg1 KT
  go_wp2_with fail
  (with_reducible refine KG.out.mono ?_)
  rintro e w2 ⟨v, rfl, hv2, hb2⟩
  obtain ⟨A2, c2, rfl⟩ := Kd.R_slice hv2
  dsimp only at hv2
  have HV2 := Aside0.mk (plan_R_new hv2 hsz1 hgl hXl)
  have HR2 := Aside0.mk (show RdrS w2 g B r1 from RdrAt.below HR1.out hb2)
  have HK2 := Aside0.mk ((Kpt.grown (X := X) HG1.out).trans (Kpt.of_below hb2))
  have HX2 := Aside0.mk ((hb2.block X (by omega)).trans ((HG1.out.block X hXl (fun e => hXg (by injection e))).trans HX.out))
  have hsz2 : w1.heap.size ≤ w2.heap.size := hb2.size
  have HP := Aside0.mk (Blk.new_ (W := w2) (o := .cells #[.int .u32 q0, .int .i64 q1, .int .i64 q2, .int .i64 q3, .int .i64 q4, .int .i64 q5, .slice A2 ls.length c2] 25)).out
  have HR3 := Aside0.mk (show RdrS (w2.alloc (.cells #[.int .u32 q0, .int .i64 q1, .int .i64 q2, .int .i64 q3, .int .i64 q4, .int .i64 q5, .slice A2 ls.length c2] 25)) g B r1 from RdrAt.alloc HR2.out _)
  have HX3 := Aside0.mk ((Blk.alloc (⟨HX2.out⟩ : Blk w2 X _) (o' := .cells #[.int .u32 q0, .int .i64 q1, .int .i64 q2, .int .i64 q3, .int .i64 q4, .int .i64 q5, .slice A2 ls.length c2] 25)).out)
  have HK3 := Aside0.mk (HK2.out.trans (Kpt.of_below (below_alloc (Below.refl _ _) (.cells #[.int .u32 q0, .int .i64 q1, .int .i64 q2, .int .i64 q3, .int .i64 q4, .int .i64 q5, .slice A2 ls.length c2] 25))))
  have HV3 := Aside0.mk (Kd.R_alloc HV2.out (.cells #[.int .u32 q0, .int .i64 q1, .int .i64 q2, .int .i64 q3, .int .i64 q4, .int .i64 q5, .slice A2 ls.length c2] 25))
  clear hv2 hb2 KG
  have fz := fun j => blk_frozen HX3.out j
  have f8 := fz 8
  have f9 := fz 9
  have f10 := fz 10
  have f11 := fz 11
  have f12 := fz 12
  have f13 := fz 13
  have f14 := fz 14
  have z8 := (cell_of_row _ X 8 _ _ _ HX3.out).trans (rfl : _ = some (Value.int .u32 x.f8.f0))
  have z9 := (cell_of_row _ X 9 _ _ _ HX3.out).trans (rfl : _ = some (Value.int .i64 x.f8.f1))
  have z10 := (cell_of_row _ X 10 _ _ _ HX3.out).trans (rfl : _ = some (Value.int .i64 x.f8.f2))
  have z11 := (cell_of_row _ X 11 _ _ _ HX3.out).trans (rfl : _ = some (Value.int .i64 x.f8.f3))
  have z12 := (cell_of_row _ X 12 _ _ _ HX3.out).trans (rfl : _ = some (Value.int .i64 x.f8.f4))
  have z13 := (cell_of_row _ X 13 _ _ _ HX3.out).trans (rfl : _ = some (Value.int .i64 x.f8.f5))
  have z14 := (cell_of_row _ X 14 _ _ _ HX3.out).trans (rfl : _ = some (Value.slice A n c))
  clear fz
  by_cases he : er = 0
  · subst he
    obtain rfl : r1 = r2 := by have := HE.out; rwa [if_pos rfl] at this
    go_wp2_with fail
    go_end0
    refine ⟨A2, c2, rfl, RdrAt.keep HR3.out (fun k hk _ => X7_other _ X _ _ _ _ _ _ _ k (HB.out k hk)), X7_put HX3.out _ _ _ _ _ _ _, HK3.out.trans (X7_kpt _ g X _ _ _ _ _ _ _), ?_⟩
    exact Kd.R_mono (Kd.R_step HV3.out (fun k hk _ => X7_other _ X _ _ _ _ _ _ _ k hk.1.2)) (fun k hk => hk.1)
  · obtain rfl : ⟨r1.xs, true⟩ = r2 := by have := HE.out; rwa [if_neg he] at this
    have he2 : (er != 0) = true := by simpa using he
    have HRB := Aside0.mk (show RdrAt (w2.alloc (.cells #[.int .u32 q0, .int .i64 q1, .int .i64 q2, .int .i64 q3, .int .i64 q4, .int .i64 q5, .slice A2 ls.length c2] 25)) g B r1.xs r1.bad from HR3.out)
    clear f8 f9 f10 f11 f12 f13 f14 z8 z9 z10 z11 z12 z13 z14
    go_wp2_with fail
    (with_reducible refine (Bad_any g B r1.xs r1.bad _ HRB.out).mono ?_)
    rintro e w3 ⟨rfl, hr4, hg4⟩
    have HR4 := Aside0.mk (show RdrS w3 g B ⟨r1.xs, true⟩ from hr4)
    have HX4 := Aside0.mk ((hg4.block X (by simp; omega) (fun e => hXg (by injection e))).trans HX3.out)
    have HK4 := Aside0.mk (HK3.out.trans (Kpt.grown hg4))
    have HV4 := Aside0.mk (Kd.R_grown HV3.out hg4 (fun k hk e => hk.1.1 (by injection e)))
    have HP4 := (hg4.block w2.heap.size (by simp) (fun e => by injection e with e; omega)).trans HP.out
    have p0 := (cell_of_row w3 _ 0 _ _ _ HP4).trans (rfl : _ = some (Value.int .u32 q0))
    have p1 := (cell_of_row w3 _ 1 _ _ _ HP4).trans (rfl : _ = some (Value.int .i64 q1))
    have p2 := (cell_of_row w3 _ 2 _ _ _ HP4).trans (rfl : _ = some (Value.int .i64 q2))
    have p3 := (cell_of_row w3 _ 3 _ _ _ HP4).trans (rfl : _ = some (Value.int .i64 q3))
    have p4 := (cell_of_row w3 _ 4 _ _ _ HP4).trans (rfl : _ = some (Value.int .i64 q4))
    have p5 := (cell_of_row w3 _ 5 _ _ _ HP4).trans (rfl : _ = some (Value.int .i64 q5))
    have p6 := (cell_of_row w3 _ 6 _ _ _ HP4).trans (rfl : _ = some (Value.slice A2 ls.length c2))
    have fz := fun j => blk_frozen HX4.out j
    have f8 := fz 8
    have f9 := fz 9
    have f10 := fz 10
    have f11 := fz 11
    have f12 := fz 12
    have f13 := fz 13
    have f14 := fz 14
    have z8 := (cell_of_row w3 X 8 _ _ _ HX4.out).trans (rfl : _ = some (Value.int .u32 x.f8.f0))
    have z9 := (cell_of_row w3 X 9 _ _ _ HX4.out).trans (rfl : _ = some (Value.int .i64 x.f8.f1))
    have z10 := (cell_of_row w3 X 10 _ _ _ HX4.out).trans (rfl : _ = some (Value.int .i64 x.f8.f2))
    have z11 := (cell_of_row w3 X 11 _ _ _ HX4.out).trans (rfl : _ = some (Value.int .i64 x.f8.f3))
    have z12 := (cell_of_row w3 X 12 _ _ _ HX4.out).trans (rfl : _ = some (Value.int .i64 x.f8.f4))
    have z13 := (cell_of_row w3 X 13 _ _ _ HX4.out).trans (rfl : _ = some (Value.int .i64 x.f8.f5))
    have z14 := (cell_of_row w3 X 14 _ _ _ HX4.out).trans (rfl : _ = some (Value.slice A n c))
    clear fz hr4 hg4 HP4
    go_wp2_with fail
    go_end0
    refine ⟨A2, c2, rfl, RdrAt.keep HR4.out (fun k hk _ => X7_other _ X _ _ _ _ _ _ _ k (HB.out k hk)), X7_put HX4.out _ _ _ _ _ _ _, HK4.out.trans (X7_kpt _ g X _ _ _ _ _ _ _), ?_⟩
    exact Kd.R_mono (Kd.R_step HV4.out (fun k hk _ => X7_other _ X _ _ _ _ _ _ _ k hk.1.2)) (fun k hk => hk.1)
end Go.Proofs.Ytanjkhdagegapaa.Ext
end

section
/- msg.fields: what it lays. -/
namespace Go.Proofs.Ytanjkhdagegapaa.Ext
open Go.RowKit Go.MapKept Go.Shelf Go.Proofs.YtanjkhdagegapaaW.PrintWords Go.Proofs.YtanjkhdagegapaaW.PrintLast Go.Proofs.YtanjkhdagegapaaW.PrintMore Go.Proofs.YtanjkhdagegapaaW.Hand Go.Proofs.Ytanjkhdagegapaa.PZ
set_option linter.unusedVariables false
theorem small_calls (n : Int) (k : Nat) (w : World) : Calls Try.prog 64 #[.func (.func k) #[] #[], .int .u32 n] w fun e w' => e = .returned (.agg #[.func (.func 88) #[] #[.pointer (some ⟨w.heap.size, 0, none⟩)], .func (.func 89) #[] #[.pointer (some ⟨w.heap.size, 0, none⟩)], .func (.func 90) #[] #[.pointer (some ⟨w.heap.size, 0, none⟩), .pointer (some ⟨w.heap.size + 1, 0, none⟩)]]) ∧ Boxed w' w.heap.size 108 (.func (.func k) #[] #[]) ∧ Boxed w' (w.heap.size + 1) 22 (.int .u32 n) ∧ Below w.heap.size w w' := by
  go_enter Try.func64, Try.ntmps64
  go_wp2_with fail
  exact bodyPost_ret (v := .agg #[.func (.func 88) #[] #[.pointer (some ⟨w.heap.size, 0, none⟩)], .func (.func 89) #[] #[.pointer (some ⟨w.heap.size, 0, none⟩)], .func (.func 90) #[] #[.pointer (some ⟨w.heap.size, 0, none⟩), .pointer (some ⟨w.heap.size + 1, 0, none⟩)]]) (by simp [results, Try.results64, go_sem]) rfl ⟨rfl, ((Boxed.new w 108 (.func (.func k) #[] #[])).alloc _).alloc _, by have := (Boxed.new (w.alloc (.cells #[.func (.func k) #[] #[]] 108)) 22 (.int .u32 n)).alloc; rw [size_alloc] at this; exact this _, below_alloc (below_alloc (below_alloc (Below.refl _ _) _) _) _⟩
theorem text_calls (j : Nat) (k : Nat) (w : World) : Calls Try.prog 66 #[.func (.func k) #[] #[], .func (.func j) #[] #[]] w fun e w' => e = .returned (.agg #[.func (.func 91) #[] #[.pointer (some ⟨w.heap.size, 0, none⟩)], .func (.func 92) #[] #[.pointer (some ⟨w.heap.size, 0, none⟩)], .func (.func 93) #[] #[.pointer (some ⟨w.heap.size + 1, 0, none⟩), .pointer (some ⟨w.heap.size, 0, none⟩)]]) ∧ Boxed w' w.heap.size 111 (.func (.func k) #[] #[]) ∧ Boxed w' (w.heap.size + 1) 69 (.func (.func j) #[] #[]) ∧ Below w.heap.size w w' := by
  go_enter Try.func66, Try.ntmps66
  go_wp2_with fail
  exact bodyPost_ret (v := .agg #[.func (.func 91) #[] #[.pointer (some ⟨w.heap.size, 0, none⟩)], .func (.func 92) #[] #[.pointer (some ⟨w.heap.size, 0, none⟩)], .func (.func 93) #[] #[.pointer (some ⟨w.heap.size + 1, 0, none⟩), .pointer (some ⟨w.heap.size, 0, none⟩)]]) (by simp [results, Try.results66, go_sem]) rfl ⟨rfl, ((Boxed.new w 111 (.func (.func k) #[] #[])).alloc _).alloc _, by have := (Boxed.new (w.alloc (.cells #[.func (.func k) #[] #[]] 111)) 69 (.func (.func j) #[] #[])).alloc; rw [size_alloc] at this; exact this _, below_alloc (below_alloc (below_alloc (Below.refl _ _) _) _) _⟩
theorem number_calls  (k : Nat) (w : World) : Calls Try.prog 70 #[.func (.func k) #[] #[]] w fun e w' => e = .returned (.agg #[.func (.func 94) #[] #[.pointer (some ⟨w.heap.size, 0, none⟩)], .func (.func 95) #[] #[.pointer (some ⟨w.heap.size, 0, none⟩)], .func (.func 96) #[] #[]]) ∧ Boxed w' w.heap.size 114 (.func (.func k) #[] #[]) ∧ Below w.heap.size w w' := by
  go_enter Try.func70, Try.ntmps70
  go_wp2_with fail
  exact bodyPost_ret (v := .agg #[.func (.func 94) #[] #[.pointer (some ⟨w.heap.size, 0, none⟩)], .func (.func 95) #[] #[.pointer (some ⟨w.heap.size, 0, none⟩)], .func (.func 96) #[] #[]]) (by simp [results, Try.results70, go_sem]) rfl ⟨rfl, ((Boxed.new w 114 (.func (.func k) #[] #[])).alloc _), below_alloc (below_alloc (Below.refl _ _) _) _⟩
def FOt (W : World) (L : Nat) (v : Value) : Prop := ∃ a l, v = .agg #[.func (.func 88) #[] #[.pointer (some ⟨a, 0, none⟩)], .func (.func 89) #[] #[.pointer (some ⟨a, 0, none⟩)], .func (.func 90) #[] #[.pointer (some ⟨a, 0, none⟩), .pointer (some ⟨l, 0, none⟩)]] ∧ L ≤ a ∧ Boxed W a 108 (.func (.func 65) #[] #[]) ∧ L ≤ l ∧ Boxed W l 22 (.int .u32 1)
theorem FOt.kept {W W' : World} {L : Nat} {v : Value} (h : FOt W L v) (hk : ∀ k, L ≤ k → k < W.heap.size → W'.heap[k]? = W.heap[k]?) : FOt W' L v := by
  obtain ⟨a, l, h1, h2, h3, h4, h5⟩ := h
  exact ⟨a, l, h1, h2, (hk a h2 h3.lt).trans h3, h4, (hk l h4 h5.lt).trans h5⟩
def FOk (W : World) (L : Nat) (v : Value) : Prop := ∃ a l, v = .agg #[.func (.func 91) #[] #[.pointer (some ⟨a, 0, none⟩)], .func (.func 92) #[] #[.pointer (some ⟨a, 0, none⟩)], .func (.func 93) #[] #[.pointer (some ⟨l, 0, none⟩), .pointer (some ⟨a, 0, none⟩)]] ∧ L ≤ a ∧ Boxed W a 111 (.func (.func 67) #[] #[]) ∧ L ≤ l ∧ Boxed W l 69 (.func (.func 68) #[] #[])
theorem FOk.kept {W W' : World} {L : Nat} {v : Value} (h : FOk W L v) (hk : ∀ k, L ≤ k → k < W.heap.size → W'.heap[k]? = W.heap[k]?) : FOk W' L v := by
  obtain ⟨a, l, h1, h2, h3, h4, h5⟩ := h
  exact ⟨a, l, h1, h2, (hk a h2 h3.lt).trans h3, h4, (hk l h4 h5.lt).trans h5⟩
def FOi (W : World) (L : Nat) (v : Value) : Prop := ∃ a l, v = .agg #[.func (.func 88) #[] #[.pointer (some ⟨a, 0, none⟩)], .func (.func 89) #[] #[.pointer (some ⟨a, 0, none⟩)], .func (.func 90) #[] #[.pointer (some ⟨a, 0, none⟩), .pointer (some ⟨l, 0, none⟩)]] ∧ L ≤ a ∧ Boxed W a 108 (.func (.func 69) #[] #[]) ∧ L ≤ l ∧ Boxed W l 22 (.int .u32 0)
theorem FOi.kept {W W' : World} {L : Nat} {v : Value} (h : FOi W L v) (hk : ∀ k, L ≤ k → k < W.heap.size → W'.heap[k]? = W.heap[k]?) : FOi W' L v := by
  obtain ⟨a, l, h1, h2, h3, h4, h5⟩ := h
  exact ⟨a, l, h1, h2, (hk a h2 h3.lt).trans h3, h4, (hk l h4 h5.lt).trans h5⟩
def FOn (W : World) (L : Nat) (v : Value) : Prop := ∃ a, v = .agg #[.func (.func 94) #[] #[.pointer (some ⟨a, 0, none⟩)], .func (.func 95) #[] #[.pointer (some ⟨a, 0, none⟩)], .func (.func 96) #[] #[]] ∧ L ≤ a ∧ Boxed W a 114 (.func (.func 71) #[] #[])
theorem FOn.kept {W W' : World} {L : Nat} {v : Value} (h : FOn W L v) (hk : ∀ k, L ≤ k → k < W.heap.size → W'.heap[k]? = W.heap[k]?) : FOn W' L v := by
  obtain ⟨a, h1, h2, h3⟩ := h
  exact ⟨a, h1, h2, (hk a h2 h3.lt).trans h3⟩
def FOm (W : World) (L : Nat) (v : Value) : Prop := ∃ a, v = .agg #[.func (.func 94) #[] #[.pointer (some ⟨a, 0, none⟩)], .func (.func 95) #[] #[.pointer (some ⟨a, 0, none⟩)], .func (.func 96) #[] #[]] ∧ L ≤ a ∧ Boxed W a 114 (.func (.func 72) #[] #[])
theorem FOm.kept {W W' : World} {L : Nat} {v : Value} (h : FOm W L v) (hk : ∀ k, L ≤ k → k < W.heap.size → W'.heap[k]? = W.heap[k]?) : FOm W' L v := by
  obtain ⟨a, h1, h2, h3⟩ := h
  exact ⟨a, h1, h2, (hk a h2 h3.lt).trans h3⟩
def FOp (W : World) (L : Nat) (v : Value) : Prop := ∃ a, v = .agg #[.func (.func 94) #[] #[.pointer (some ⟨a, 0, none⟩)], .func (.func 95) #[] #[.pointer (some ⟨a, 0, none⟩)], .func (.func 96) #[] #[]] ∧ L ≤ a ∧ Boxed W a 114 (.func (.func 73) #[] #[])
theorem FOp.kept {W W' : World} {L : Nat} {v : Value} (h : FOp W L v) (hk : ∀ k, L ≤ k → k < W.heap.size → W'.heap[k]? = W.heap[k]?) : FOp W' L v := by
  obtain ⟨a, h1, h2, h3⟩ := h
  exact ⟨a, h1, h2, (hk a h2 h3.lt).trans h3⟩
def FOs (W : World) (L : Nat) (v : Value) : Prop := ∃ a l, v = .agg #[.func (.func 91) #[] #[.pointer (some ⟨a, 0, none⟩)], .func (.func 92) #[] #[.pointer (some ⟨a, 0, none⟩)], .func (.func 93) #[] #[.pointer (some ⟨l, 0, none⟩), .pointer (some ⟨a, 0, none⟩)]] ∧ L ≤ a ∧ Boxed W a 111 (.func (.func 74) #[] #[]) ∧ L ≤ l ∧ Boxed W l 69 (.func (.func 75) #[] #[])
theorem FOs.kept {W W' : World} {L : Nat} {v : Value} (h : FOs W L v) (hk : ∀ k, L ≤ k → k < W.heap.size → W'.heap[k]? = W.heap[k]?) : FOs W' L v := by
  obtain ⟨a, l, h1, h2, h3, h4, h5⟩ := h
  exact ⟨a, l, h1, h2, (hk a h2 h3.lt).trans h3, h4, (hk l h4 h5.lt).trans h5⟩
theorem FOt.low {W : World} {L L' : Nat} {v : Value} (h : FOt W L v) (hl : L' ≤ L) : FOt W L' v := by
  obtain ⟨a, l, h1, h2, h3, h4, h5⟩ := h
  exact ⟨a, l, h1, by omega, h3, by omega, h5⟩
theorem FOk.low {W : World} {L L' : Nat} {v : Value} (h : FOk W L v) (hl : L' ≤ L) : FOk W L' v := by
  obtain ⟨a, l, h1, h2, h3, h4, h5⟩ := h
  exact ⟨a, l, h1, by omega, h3, by omega, h5⟩
theorem FOi.low {W : World} {L L' : Nat} {v : Value} (h : FOi W L v) (hl : L' ≤ L) : FOi W L' v := by
  obtain ⟨a, l, h1, h2, h3, h4, h5⟩ := h
  exact ⟨a, l, h1, by omega, h3, by omega, h5⟩
theorem FOn.low {W : World} {L L' : Nat} {v : Value} (h : FOn W L v) (hl : L' ≤ L) : FOn W L' v := by
  obtain ⟨a, h1, h2, h3⟩ := h
  exact ⟨a, h1, by omega, h3⟩
theorem FOm.low {W : World} {L L' : Nat} {v : Value} (h : FOm W L v) (hl : L' ≤ L) : FOm W L' v := by
  obtain ⟨a, h1, h2, h3⟩ := h
  exact ⟨a, h1, by omega, h3⟩
theorem FOp.low {W : World} {L L' : Nat} {v : Value} (h : FOp W L v) (hl : L' ≤ L) : FOp W L' v := by
  obtain ⟨a, h1, h2, h3⟩ := h
  exact ⟨a, h1, by omega, h3⟩
theorem FOs.low {W : World} {L L' : Nat} {v : Value} (h : FOs W L v) (hl : L' ≤ L) : FOs W L' v := by
  obtain ⟨a, l, h1, h2, h3, h4, h5⟩ := h
  exact ⟨a, l, h1, by omega, h3, by omega, h5⟩
def vx : Value := .agg #[.func (.func 76) #[] #[], .func (.func 77) #[] #[], .func (.func 78) #[] #[]]
def fE (vt vk vi vn vm vp vs : Value) (n : Nat) : Array MapEntry := ([⟨.int .i32 116, vt, 0⟩, ⟨.int .i32 107, vk, 1⟩, ⟨.int .i32 105, vi, 2⟩, ⟨.int .i32 110, vn, 3⟩, ⟨.int .i32 109, vm, 4⟩, ⟨.int .i32 112, vp, 5⟩, ⟨.int .i32 115, vs, 6⟩, ⟨.int .i32 120, vx, 7⟩].take n).toArray
structure FMap (W : World) (L m : Nat) : Prop where
  out : ∃ vt vk vi vn vm vp vs : Value, W.heap[m]? = some (.map (fE vt vk vi vn vm vp vs 8) 8) ∧ FOt W L vt ∧ FOk W L vk ∧ FOi W L vi ∧ FOn W L vn ∧ FOm W L vm ∧ FOp W L vp ∧ FOs W L vs
theorem FMap.kept {W W' : World} {L m : Nat} (h : FMap W L m) (hLm : L ≤ m) (hkeep : ∀ k, L ≤ k → k < W.heap.size → W'.heap[k]? = W.heap[k]?) : FMap W' L m := by
  obtain ⟨vt, vk, vi, vn, vm, vp, vs, h0, ht, hk, hi, hn, hm, hp, hs⟩ := h.out
  exact ⟨⟨vt, vk, vi, vn, vm, vp, vs, (hkeep m hLm (Array.getElem?_eq_some_iff.1 h0).1).trans h0, ht.kept hkeep, hk.kept hkeep, hi.kept hkeep, hn.kept hkeep, hm.kept hkeep, hp.kept hkeep, hs.kept hkeep⟩⟩
set_option maxRecDepth 100000 in
set_option maxHeartbeats 3200000 in
theorem fields_calls (w : World) : Calls Try.prog 47 #[] w fun e w' => ∃ m, e = .returned (.map (some m)) ∧ w.heap.size ≤ m ∧ FMap w' w.heap.size m ∧ Below w.heap.size w w' := by
  have hmm := @run_makeMap Try.prog
  obtain ⟨q, hq⟩ : ∃ q, w.heap.size = q := ⟨_, rfl⟩
  go_enter Try.func47, Try.ntmps47
  go_wp2_with fail
  obtain ⟨W0, hW0⟩ : ∃ W0, w.alloc (.map #[] 0) = W0 := ⟨_, rfl⟩
  have hm : Aside0 (W0.heap[q]? = some (.map (fE undef undef undef undef undef undef undef 0) 0)) := ⟨by rw [← hW0, ← hq]; exact heap_new w _⟩
  have hB : Aside0 (Below q w W0) := ⟨by rw [← hW0, ← hq]; exact below_alloc (Below.refl _ _) _⟩
  rw [hW0]
  clear hW0
  (with_reducible refine (small_calls 1 65 _).mono ?_)
  rintro e w1 ⟨rfl, b1, l1, hb⟩
  have hsz := hb.size
  have hq0 : q < W0.heap.size := (Array.getElem?_eq_some_iff.1 hm.out).1
  obtain ⟨vt, hv⟩ : ∃ v : Value, (.agg #[.func (.func 88) #[] #[.pointer (some ⟨W0.heap.size, 0, none⟩)], .func (.func 89) #[] #[.pointer (some ⟨W0.heap.size, 0, none⟩)], .func (.func 90) #[] #[.pointer (some ⟨W0.heap.size, 0, none⟩), .pointer (some ⟨W0.heap.size + 1, 0, none⟩)]] : Value) = v := ⟨_, rfl⟩
  rw [hv]
  have hm1 : Aside0 (w1.heap[q]? = some (.map (fE undef undef undef undef undef undef undef 0) 0)) := ⟨(hb.block q hq0).trans hm.out⟩
  have hm2 : w1.heap[q]? = _ := hm1.out
  have pp : (Instr.mapUpdate 87 (.map (some q)) (.int .i32 116) vt).run Try.prog w1 = .ok () (turned w1 q (.map (fE vt undef undef undef undef undef undef 1) 1)) := run_put w1 q (fE undef undef undef undef undef undef undef 0) 0 87 21 86 .i32 116 vt Try.underlying87 Try.underlying21 hm2 rfl
  obtain ⟨W1, hW⟩ : ∃ W, turned w1 q (.map (fE vt undef undef undef undef undef undef 1) 1) = W := ⟨_, rfl⟩
  rw [hW] at pp
  have hk : ∀ k, q < k → k < W0.heap.size → W1.heap[k]? = W0.heap[k]? := fun k h1 h2 => by rw [← hW, turned_other _ _ _ _ (by omega)]; exact hb.block k h2
  have hm3 : Aside0 (W1.heap[q]? = some (.map (fE vt undef undef undef undef undef undef 1) 1)) := ⟨by rw [← hW]; exact turned_at (by omega)⟩
  have hB2 : Aside0 (Below q w W1) := ⟨by rw [← hW]; exact ((hB.out.trans (below_weak_ hb (by omega))).grown (turned_grown _ _ _) (by have := hB.out.size; omega) (fun k e => by injection e with e; omega))⟩
  have Ot : Aside0 (FOt W1 (q + 1) vt) := ⟨⟨_, _, hv.symm, by omega, by rw [← hW]; exact (turned_other _ _ _ _ (by omega)).trans b1, by omega, by rw [← hW]; exact (turned_other _ _ _ _ (by omega)).trans l1⟩⟩
  clear hm hm1 hm2 hk hB b1 l1 hb hsz hq0 hv hW
  obtain ⟨hm, hB⟩ := And.intro hm3 hB2
  clear hm3 hB2
  go_wp2_with fail
  clear pp
  (with_reducible refine (text_calls 68 67 _).mono ?_)
  rintro e w1 ⟨rfl, b1, l1, hb⟩
  have hsz := hb.size
  have hq0 : q < W1.heap.size := (Array.getElem?_eq_some_iff.1 hm.out).1
  obtain ⟨vk, hv⟩ : ∃ v : Value, (.agg #[.func (.func 91) #[] #[.pointer (some ⟨W1.heap.size, 0, none⟩)], .func (.func 92) #[] #[.pointer (some ⟨W1.heap.size, 0, none⟩)], .func (.func 93) #[] #[.pointer (some ⟨W1.heap.size + 1, 0, none⟩), .pointer (some ⟨W1.heap.size, 0, none⟩)]] : Value) = v := ⟨_, rfl⟩
  rw [hv]
  have hm1 : Aside0 (w1.heap[q]? = some (.map (fE vt undef undef undef undef undef undef 1) 1)) := ⟨(hb.block q hq0).trans hm.out⟩
  have hm2 : w1.heap[q]? = _ := hm1.out
  have pp : (Instr.mapUpdate 87 (.map (some q)) (.int .i32 107) vk).run Try.prog w1 = .ok () (turned w1 q (.map (fE vt vk undef undef undef undef undef 2) 2)) := run_put w1 q (fE vt undef undef undef undef undef undef 1) 1 87 21 86 .i32 107 vk Try.underlying87 Try.underlying21 hm2 rfl
  obtain ⟨W2, hW⟩ : ∃ W, turned w1 q (.map (fE vt vk undef undef undef undef undef 2) 2) = W := ⟨_, rfl⟩
  rw [hW] at pp
  have hk : ∀ k, q < k → k < W1.heap.size → W2.heap[k]? = W1.heap[k]? := fun k h1 h2 => by rw [← hW, turned_other _ _ _ _ (by omega)]; exact hb.block k h2
  have hm3 : Aside0 (W2.heap[q]? = some (.map (fE vt vk undef undef undef undef undef 2) 2)) := ⟨by rw [← hW]; exact turned_at (by omega)⟩
  have hB2 : Aside0 (Below q w W2) := ⟨by rw [← hW]; exact ((hB.out.trans (below_weak_ hb (by omega))).grown (turned_grown _ _ _) (by have := hB.out.size; omega) (fun k e => by injection e with e; omega))⟩
  have Ok : Aside0 (FOk W2 (q + 1) vk) := ⟨⟨_, _, hv.symm, by omega, by rw [← hW]; exact (turned_other _ _ _ _ (by omega)).trans b1, by omega, by rw [← hW]; exact (turned_other _ _ _ _ (by omega)).trans l1⟩⟩
  replace Ot : Aside0 (FOt W2 (q + 1) vt) := ⟨Ot.out.kept (fun k h1 h2 => hk k (by omega) h2)⟩
  clear hm hm1 hm2 hk hB b1 l1 hb hsz hq0 hv hW
  obtain ⟨hm, hB⟩ := And.intro hm3 hB2
  clear hm3 hB2
  go_wp2_with fail
  clear pp
  (with_reducible refine (small_calls 0 69 _).mono ?_)
  rintro e w1 ⟨rfl, b1, l1, hb⟩
  have hsz := hb.size
  have hq0 : q < W2.heap.size := (Array.getElem?_eq_some_iff.1 hm.out).1
  obtain ⟨vi, hv⟩ : ∃ v : Value, (.agg #[.func (.func 88) #[] #[.pointer (some ⟨W2.heap.size, 0, none⟩)], .func (.func 89) #[] #[.pointer (some ⟨W2.heap.size, 0, none⟩)], .func (.func 90) #[] #[.pointer (some ⟨W2.heap.size, 0, none⟩), .pointer (some ⟨W2.heap.size + 1, 0, none⟩)]] : Value) = v := ⟨_, rfl⟩
  rw [hv]
  have hm1 : Aside0 (w1.heap[q]? = some (.map (fE vt vk undef undef undef undef undef 2) 2)) := ⟨(hb.block q hq0).trans hm.out⟩
  have hm2 : w1.heap[q]? = _ := hm1.out
  have pp : (Instr.mapUpdate 87 (.map (some q)) (.int .i32 105) vi).run Try.prog w1 = .ok () (turned w1 q (.map (fE vt vk vi undef undef undef undef 3) 3)) := run_put w1 q (fE vt vk undef undef undef undef undef 2) 2 87 21 86 .i32 105 vi Try.underlying87 Try.underlying21 hm2 rfl
  obtain ⟨W3, hW⟩ : ∃ W, turned w1 q (.map (fE vt vk vi undef undef undef undef 3) 3) = W := ⟨_, rfl⟩
  rw [hW] at pp
  have hk : ∀ k, q < k → k < W2.heap.size → W3.heap[k]? = W2.heap[k]? := fun k h1 h2 => by rw [← hW, turned_other _ _ _ _ (by omega)]; exact hb.block k h2
  have hm3 : Aside0 (W3.heap[q]? = some (.map (fE vt vk vi undef undef undef undef 3) 3)) := ⟨by rw [← hW]; exact turned_at (by omega)⟩
  have hB2 : Aside0 (Below q w W3) := ⟨by rw [← hW]; exact ((hB.out.trans (below_weak_ hb (by omega))).grown (turned_grown _ _ _) (by have := hB.out.size; omega) (fun k e => by injection e with e; omega))⟩
  have Oi : Aside0 (FOi W3 (q + 1) vi) := ⟨⟨_, _, hv.symm, by omega, by rw [← hW]; exact (turned_other _ _ _ _ (by omega)).trans b1, by omega, by rw [← hW]; exact (turned_other _ _ _ _ (by omega)).trans l1⟩⟩
  replace Ot : Aside0 (FOt W3 (q + 1) vt) := ⟨Ot.out.kept (fun k h1 h2 => hk k (by omega) h2)⟩
  replace Ok : Aside0 (FOk W3 (q + 1) vk) := ⟨Ok.out.kept (fun k h1 h2 => hk k (by omega) h2)⟩
  clear hm hm1 hm2 hk hB b1 l1 hb hsz hq0 hv hW
  obtain ⟨hm, hB⟩ := And.intro hm3 hB2
  clear hm3 hB2
  go_wp2_with fail
  clear pp
  (with_reducible refine (number_calls 71 _).mono ?_)
  rintro e w1 ⟨rfl, b1, hb⟩
  have hsz := hb.size
  have hq0 : q < W3.heap.size := (Array.getElem?_eq_some_iff.1 hm.out).1
  obtain ⟨vn, hv⟩ : ∃ v : Value, (.agg #[.func (.func 94) #[] #[.pointer (some ⟨W3.heap.size, 0, none⟩)], .func (.func 95) #[] #[.pointer (some ⟨W3.heap.size, 0, none⟩)], .func (.func 96) #[] #[]] : Value) = v := ⟨_, rfl⟩
  rw [hv]
  have hm1 : Aside0 (w1.heap[q]? = some (.map (fE vt vk vi undef undef undef undef 3) 3)) := ⟨(hb.block q hq0).trans hm.out⟩
  have hm2 : w1.heap[q]? = _ := hm1.out
  have pp : (Instr.mapUpdate 87 (.map (some q)) (.int .i32 110) vn).run Try.prog w1 = .ok () (turned w1 q (.map (fE vt vk vi vn undef undef undef 4) 4)) := run_put w1 q (fE vt vk vi undef undef undef undef 3) 3 87 21 86 .i32 110 vn Try.underlying87 Try.underlying21 hm2 rfl
  obtain ⟨W4, hW⟩ : ∃ W, turned w1 q (.map (fE vt vk vi vn undef undef undef 4) 4) = W := ⟨_, rfl⟩
  rw [hW] at pp
  have hk : ∀ k, q < k → k < W3.heap.size → W4.heap[k]? = W3.heap[k]? := fun k h1 h2 => by rw [← hW, turned_other _ _ _ _ (by omega)]; exact hb.block k h2
  have hm3 : Aside0 (W4.heap[q]? = some (.map (fE vt vk vi vn undef undef undef 4) 4)) := ⟨by rw [← hW]; exact turned_at (by omega)⟩
  have hB2 : Aside0 (Below q w W4) := ⟨by rw [← hW]; exact ((hB.out.trans (below_weak_ hb (by omega))).grown (turned_grown _ _ _) (by have := hB.out.size; omega) (fun k e => by injection e with e; omega))⟩
  have On : Aside0 (FOn W4 (q + 1) vn) := ⟨⟨_, hv.symm, by omega, by rw [← hW]; exact (turned_other _ _ _ _ (by omega)).trans b1⟩⟩
  replace Ot : Aside0 (FOt W4 (q + 1) vt) := ⟨Ot.out.kept (fun k h1 h2 => hk k (by omega) h2)⟩
  replace Ok : Aside0 (FOk W4 (q + 1) vk) := ⟨Ok.out.kept (fun k h1 h2 => hk k (by omega) h2)⟩
  replace Oi : Aside0 (FOi W4 (q + 1) vi) := ⟨Oi.out.kept (fun k h1 h2 => hk k (by omega) h2)⟩
  clear hm hm1 hm2 hk hB b1 hb hsz hq0 hv hW
  obtain ⟨hm, hB⟩ := And.intro hm3 hB2
  clear hm3 hB2
  go_wp2_with fail
  clear pp
  (with_reducible refine (number_calls 72 _).mono ?_)
  rintro e w1 ⟨rfl, b1, hb⟩
  have hsz := hb.size
  have hq0 : q < W4.heap.size := (Array.getElem?_eq_some_iff.1 hm.out).1
  obtain ⟨vm, hv⟩ : ∃ v : Value, (.agg #[.func (.func 94) #[] #[.pointer (some ⟨W4.heap.size, 0, none⟩)], .func (.func 95) #[] #[.pointer (some ⟨W4.heap.size, 0, none⟩)], .func (.func 96) #[] #[]] : Value) = v := ⟨_, rfl⟩
  rw [hv]
  have hm1 : Aside0 (w1.heap[q]? = some (.map (fE vt vk vi vn undef undef undef 4) 4)) := ⟨(hb.block q hq0).trans hm.out⟩
  have hm2 : w1.heap[q]? = _ := hm1.out
  have pp : (Instr.mapUpdate 87 (.map (some q)) (.int .i32 109) vm).run Try.prog w1 = .ok () (turned w1 q (.map (fE vt vk vi vn vm undef undef 5) 5)) := run_put w1 q (fE vt vk vi vn undef undef undef 4) 4 87 21 86 .i32 109 vm Try.underlying87 Try.underlying21 hm2 rfl
  obtain ⟨W5, hW⟩ : ∃ W, turned w1 q (.map (fE vt vk vi vn vm undef undef 5) 5) = W := ⟨_, rfl⟩
  rw [hW] at pp
  have hk : ∀ k, q < k → k < W4.heap.size → W5.heap[k]? = W4.heap[k]? := fun k h1 h2 => by rw [← hW, turned_other _ _ _ _ (by omega)]; exact hb.block k h2
  have hm3 : Aside0 (W5.heap[q]? = some (.map (fE vt vk vi vn vm undef undef 5) 5)) := ⟨by rw [← hW]; exact turned_at (by omega)⟩
  have hB2 : Aside0 (Below q w W5) := ⟨by rw [← hW]; exact ((hB.out.trans (below_weak_ hb (by omega))).grown (turned_grown _ _ _) (by have := hB.out.size; omega) (fun k e => by injection e with e; omega))⟩
  have Om : Aside0 (FOm W5 (q + 1) vm) := ⟨⟨_, hv.symm, by omega, by rw [← hW]; exact (turned_other _ _ _ _ (by omega)).trans b1⟩⟩
  replace Ot : Aside0 (FOt W5 (q + 1) vt) := ⟨Ot.out.kept (fun k h1 h2 => hk k (by omega) h2)⟩
  replace Ok : Aside0 (FOk W5 (q + 1) vk) := ⟨Ok.out.kept (fun k h1 h2 => hk k (by omega) h2)⟩
  replace Oi : Aside0 (FOi W5 (q + 1) vi) := ⟨Oi.out.kept (fun k h1 h2 => hk k (by omega) h2)⟩
  replace On : Aside0 (FOn W5 (q + 1) vn) := ⟨On.out.kept (fun k h1 h2 => hk k (by omega) h2)⟩
  clear hm hm1 hm2 hk hB b1 hb hsz hq0 hv hW
  obtain ⟨hm, hB⟩ := And.intro hm3 hB2
  clear hm3 hB2
  go_wp2_with fail
  clear pp
  (with_reducible refine (number_calls 73 _).mono ?_)
  rintro e w1 ⟨rfl, b1, hb⟩
  have hsz := hb.size
  have hq0 : q < W5.heap.size := (Array.getElem?_eq_some_iff.1 hm.out).1
  obtain ⟨vp, hv⟩ : ∃ v : Value, (.agg #[.func (.func 94) #[] #[.pointer (some ⟨W5.heap.size, 0, none⟩)], .func (.func 95) #[] #[.pointer (some ⟨W5.heap.size, 0, none⟩)], .func (.func 96) #[] #[]] : Value) = v := ⟨_, rfl⟩
  rw [hv]
  have hm1 : Aside0 (w1.heap[q]? = some (.map (fE vt vk vi vn vm undef undef 5) 5)) := ⟨(hb.block q hq0).trans hm.out⟩
  have hm2 : w1.heap[q]? = _ := hm1.out
  have pp : (Instr.mapUpdate 87 (.map (some q)) (.int .i32 112) vp).run Try.prog w1 = .ok () (turned w1 q (.map (fE vt vk vi vn vm vp undef 6) 6)) := run_put w1 q (fE vt vk vi vn vm undef undef 5) 5 87 21 86 .i32 112 vp Try.underlying87 Try.underlying21 hm2 rfl
  obtain ⟨W6, hW⟩ : ∃ W, turned w1 q (.map (fE vt vk vi vn vm vp undef 6) 6) = W := ⟨_, rfl⟩
  rw [hW] at pp
  have hk : ∀ k, q < k → k < W5.heap.size → W6.heap[k]? = W5.heap[k]? := fun k h1 h2 => by rw [← hW, turned_other _ _ _ _ (by omega)]; exact hb.block k h2
  have hm3 : Aside0 (W6.heap[q]? = some (.map (fE vt vk vi vn vm vp undef 6) 6)) := ⟨by rw [← hW]; exact turned_at (by omega)⟩
  have hB2 : Aside0 (Below q w W6) := ⟨by rw [← hW]; exact ((hB.out.trans (below_weak_ hb (by omega))).grown (turned_grown _ _ _) (by have := hB.out.size; omega) (fun k e => by injection e with e; omega))⟩
  have Op : Aside0 (FOp W6 (q + 1) vp) := ⟨⟨_, hv.symm, by omega, by rw [← hW]; exact (turned_other _ _ _ _ (by omega)).trans b1⟩⟩
  replace Ot : Aside0 (FOt W6 (q + 1) vt) := ⟨Ot.out.kept (fun k h1 h2 => hk k (by omega) h2)⟩
  replace Ok : Aside0 (FOk W6 (q + 1) vk) := ⟨Ok.out.kept (fun k h1 h2 => hk k (by omega) h2)⟩
  replace Oi : Aside0 (FOi W6 (q + 1) vi) := ⟨Oi.out.kept (fun k h1 h2 => hk k (by omega) h2)⟩
  replace On : Aside0 (FOn W6 (q + 1) vn) := ⟨On.out.kept (fun k h1 h2 => hk k (by omega) h2)⟩
  replace Om : Aside0 (FOm W6 (q + 1) vm) := ⟨Om.out.kept (fun k h1 h2 => hk k (by omega) h2)⟩
  clear hm hm1 hm2 hk hB b1 hb hsz hq0 hv hW
  obtain ⟨hm, hB⟩ := And.intro hm3 hB2
  clear hm3 hB2
  go_wp2_with fail
  clear pp
  (with_reducible refine (text_calls 75 74 _).mono ?_)
  rintro e w1 ⟨rfl, b1, l1, hb⟩
  have hsz := hb.size
  have hq0 : q < W6.heap.size := (Array.getElem?_eq_some_iff.1 hm.out).1
  obtain ⟨vs, hv⟩ : ∃ v : Value, (.agg #[.func (.func 91) #[] #[.pointer (some ⟨W6.heap.size, 0, none⟩)], .func (.func 92) #[] #[.pointer (some ⟨W6.heap.size, 0, none⟩)], .func (.func 93) #[] #[.pointer (some ⟨W6.heap.size + 1, 0, none⟩), .pointer (some ⟨W6.heap.size, 0, none⟩)]] : Value) = v := ⟨_, rfl⟩
  rw [hv]
  have hm1 : Aside0 (w1.heap[q]? = some (.map (fE vt vk vi vn vm vp undef 6) 6)) := ⟨(hb.block q hq0).trans hm.out⟩
  have hm2 : w1.heap[q]? = _ := hm1.out
  have pp : (Instr.mapUpdate 87 (.map (some q)) (.int .i32 115) vs).run Try.prog w1 = .ok () (turned w1 q (.map (fE vt vk vi vn vm vp vs 7) 7)) := run_put w1 q (fE vt vk vi vn vm vp undef 6) 6 87 21 86 .i32 115 vs Try.underlying87 Try.underlying21 hm2 rfl
  obtain ⟨W7, hW⟩ : ∃ W, turned w1 q (.map (fE vt vk vi vn vm vp vs 7) 7) = W := ⟨_, rfl⟩
  rw [hW] at pp
  have hk : ∀ k, q < k → k < W6.heap.size → W7.heap[k]? = W6.heap[k]? := fun k h1 h2 => by rw [← hW, turned_other _ _ _ _ (by omega)]; exact hb.block k h2
  have hm3 : Aside0 (W7.heap[q]? = some (.map (fE vt vk vi vn vm vp vs 7) 7)) := ⟨by rw [← hW]; exact turned_at (by omega)⟩
  have hB2 : Aside0 (Below q w W7) := ⟨by rw [← hW]; exact ((hB.out.trans (below_weak_ hb (by omega))).grown (turned_grown _ _ _) (by have := hB.out.size; omega) (fun k e => by injection e with e; omega))⟩
  have Os : Aside0 (FOs W7 (q + 1) vs) := ⟨⟨_, _, hv.symm, by omega, by rw [← hW]; exact (turned_other _ _ _ _ (by omega)).trans b1, by omega, by rw [← hW]; exact (turned_other _ _ _ _ (by omega)).trans l1⟩⟩
  replace Ot : Aside0 (FOt W7 (q + 1) vt) := ⟨Ot.out.kept (fun k h1 h2 => hk k (by omega) h2)⟩
  replace Ok : Aside0 (FOk W7 (q + 1) vk) := ⟨Ok.out.kept (fun k h1 h2 => hk k (by omega) h2)⟩
  replace Oi : Aside0 (FOi W7 (q + 1) vi) := ⟨Oi.out.kept (fun k h1 h2 => hk k (by omega) h2)⟩
  replace On : Aside0 (FOn W7 (q + 1) vn) := ⟨On.out.kept (fun k h1 h2 => hk k (by omega) h2)⟩
  replace Om : Aside0 (FOm W7 (q + 1) vm) := ⟨Om.out.kept (fun k h1 h2 => hk k (by omega) h2)⟩
  replace Op : Aside0 (FOp W7 (q + 1) vp) := ⟨Op.out.kept (fun k h1 h2 => hk k (by omega) h2)⟩
  clear hm hm1 hm2 hk hB b1 l1 hb hsz hq0 hv hW
  obtain ⟨hm, hB⟩ := And.intro hm3 hB2
  clear hm3 hB2
  have hm2 : W7.heap[q]? = _ := hm.out
  have pp8 : (Instr.mapUpdate 87 (.map (some q)) (.int .i32 120) (.agg #[.func (.func 76) #[] #[], .func (.func 77) #[] #[], .func (.func 78) #[] #[]])).run Try.prog W7 = .ok () (turned W7 q (.map (fE vt vk vi vn vm vp vs 8) 8)) := run_put W7 q (fE vt vk vi vn vm vp vs 7) 7 87 21 86 .i32 120 _ Try.underlying87 Try.underlying21 hm2 rfl
  clear hm2
  go_wp2_with fail
  clear pp
  go_ret
  have hq0 : q < W7.heap.size := (Array.getElem?_eq_some_iff.1 hm.out).1
  have hk : ∀ k, q + 1 ≤ k → k < W7.heap.size → (turned W7 q (.map (fE vt vk vi vn vm vp vs 8) 8)).heap[k]? = W7.heap[k]? := fun k h1 h2 => turned_other _ _ _ _ (by omega)
  subst hq
  refine ⟨_, rfl, Nat.le_refl _, ⟨⟨vt, vk, vi, vn, vm, vp, vs, turned_at hq0, (Ot.out.kept hk).low (by omega), (Ok.out.kept hk).low (by omega), (Oi.out.kept hk).low (by omega), (On.out.kept hk).low (by omega), (Om.out.kept hk).low (by omega), (Op.out.kept hk).low (by omega), (Os.out.kept hk).low (by omega)⟩⟩, hB.out.grown (turned_grown _ _ _) hB.out.size (fun k e => by injection e with e; omega)⟩
end Go.Proofs.Ytanjkhdagegapaa.Ext
end

section
/- msg.put. -/
namespace Go.Proofs.Ytanjkhdagegapaa.Ext
open Go.RowKit Go.MapKept Go.Shelf Go.Proofs.YtanjkhdagegapaaW.PrintWords Go.Proofs.YtanjkhdagegapaaW.PrintLast Go.Proofs.YtanjkhdagegapaaW.PrintMore Go.Proofs.YtanjkhdagegapaaW.Hand Go.Proofs.Ytanjkhdagegapaa.PZ
set_option linter.unusedVariables false
def sg (s : ByteArray) : List Nat := s.data.toList.map UInt8.toNat
theorem sg_len (s : ByteArray) : (sg s).length = s.size := by simp [sg]
def IsSign (c : Nat) : Prop := c = 116 ∨ c = 107 ∨ c = 105 ∨ c = 110 ∨ c = 109 ∨ c = 112 ∨ c = 115 ∨ c = 120
theorem next_sign (w : World) (k : Nat) (s : ByteArray) (pos : Nat) (ty : TypeId) (hk : w.heap[k]? = some (.stringIter s pos)) (c : Nat) (hc : (sg s)[pos]? = some c) (ha : c < 128) :
    (Instr.next (.pointer (some ⟨k, 0, none⟩)) true ty).run Try.prog w = .ok (.tuple #[.bool true, .int .i64 pos, .int .i32 (c : Int)]) (w.iterAt k s (pos + 1)) := by
  have hp : pos < s.size := by have := (List.getElem?_eq_some_iff.1 hc).1; rwa [sg_len] at this
  have e : (s[pos]'hp).toNat = c := by
    unfold sg at hc
    rw [List.getElem?_map, Option.map_eq_some_iff] at hc
    obtain ⟨b, hb, rfl⟩ := hc
    rw [List.getElem?_eq_some_iff] at hb
    obtain ⟨h1, h2⟩ := hb
    rw [← h2]; rfl
  have := Lib.run_next_any_at (P := Try.prog) w k s pos ty hk hp
  rw [decode_ascii s pos hp (by rw [e]; exact ha)] at this
  rw [this, e]
def encF (x : RQ) (c : Nat) : List Int :=
  if c = 116 then beN 8 x.f1 else if c = 107 then beN 4 (bytesOf x.f2).length ++ bytesOf x.f2 else if c = 105 then beN 8 x.f3 else if c = 110 then beN 8 (x.f4 % top64) else if c = 109 then beN 8 (x.f5 % top64)
  else if c = 112 then beN 8 (x.f6 % top64) else if c = 115 then beN 4 (bytesOf x.f7).length ++ bytesOf x.f7 else beN 4 (rqPut x).1.length ++ (rqPut x).1
def encAll (x : RQ) (l : List Nat) : List Int := (l.map (encF x)).flatten
theorem encAll_snoc (x : RQ) (l : List Nat) (c : Nat) : encAll x (l ++ [c]) = encAll x l ++ encF x c := by simp [encAll]
/-- What is asked of a request's numbers and texts. -/
structure RqOk (x : RQ) : Prop where
  k0 : 0 ≤ x.f0 ∧ x.f0 < 256
  k1 : 0 ≤ x.f1 ∧ x.f1 < 4294967296
  k2 : x.f2.size ≤ 1000000
  k3 : 0 ≤ x.f3 ∧ x.f3 < 4294967296
  k7 : x.f7.size ≤ 1000000
theorem encF_len {x : RQ} (h : RqOk x) (c : Nat) : (encF x c).length ≤ 1000004 := by
  have := h.k2; have := h.k7; have := rqPut_len x
  unfold encF
  split; (rw [beN_length]; omega)
  split; (rw [List.length_append, beN_length, bytesOf_length]; omega)
  split; (rw [beN_length]; omega)
  split; (rw [beN_length]; omega)
  split; (rw [beN_length]; omega)
  split; (rw [beN_length]; omega)
  split; (rw [List.length_append, beN_length, bytesOf_length]; omega)
  rw [List.length_append, beN_length]; omega
theorem encAll_len {x : RQ} (h : RqOk x) (l : List Nat) : (encAll x l).length ≤ 1000004 * l.length := by
  induction l with
  | nil => simp [encAll]
  | cons c l ih =>
    have := encF_len h c
    show (encF x c ++ encAll x l).length ≤ _
    rw [List.length_append, List.length_cons]; omega
theorem take_sg {l : List Nat} {k c : Nat} (h : l[k]? = some c) : l.take (k + 1) = l.take k ++ [c] := by
  have hk := (List.getElem?_eq_some_iff.1 h)
  obtain ⟨h1, h2⟩ := hk
  rw [List.take_succ_eq_append_getElem h1, h2]
theorem look_t {W : World} {L m : Nat} (h : FMap W L m) : ∃ v, FOt W L v ∧ (Instr.lookup 87 (.map (some m)) (.int .i32 116) false).run Try.prog W = .ok v W := by
  obtain ⟨vt, vk, vi, vn, vm, vp, vs, h0, ht, hk, hi, hn, hm, hp, hs⟩ := h.out
  exact ⟨vt, ht, run_look W m _ 8 _ _ _ .i32 116 0 _ Try.underlying87 Try.underlying21 h0 rfl false⟩
theorem look_k {W : World} {L m : Nat} (h : FMap W L m) : ∃ v, FOk W L v ∧ (Instr.lookup 87 (.map (some m)) (.int .i32 107) false).run Try.prog W = .ok v W := by
  obtain ⟨vt, vk, vi, vn, vm, vp, vs, h0, ht, hk, hi, hn, hm, hp, hs⟩ := h.out
  exact ⟨vk, hk, run_look W m _ 8 _ _ _ .i32 107 1 _ Try.underlying87 Try.underlying21 h0 rfl false⟩
theorem look_i {W : World} {L m : Nat} (h : FMap W L m) : ∃ v, FOi W L v ∧ (Instr.lookup 87 (.map (some m)) (.int .i32 105) false).run Try.prog W = .ok v W := by
  obtain ⟨vt, vk, vi, vn, vm, vp, vs, h0, ht, hk, hi, hn, hm, hp, hs⟩ := h.out
  exact ⟨vi, hi, run_look W m _ 8 _ _ _ .i32 105 2 _ Try.underlying87 Try.underlying21 h0 rfl false⟩
theorem look_n {W : World} {L m : Nat} (h : FMap W L m) : ∃ v, FOn W L v ∧ (Instr.lookup 87 (.map (some m)) (.int .i32 110) false).run Try.prog W = .ok v W := by
  obtain ⟨vt, vk, vi, vn, vm, vp, vs, h0, ht, hk, hi, hn, hm, hp, hs⟩ := h.out
  exact ⟨vn, hn, run_look W m _ 8 _ _ _ .i32 110 3 _ Try.underlying87 Try.underlying21 h0 rfl false⟩
theorem look_m {W : World} {L m : Nat} (h : FMap W L m) : ∃ v, FOm W L v ∧ (Instr.lookup 87 (.map (some m)) (.int .i32 109) false).run Try.prog W = .ok v W := by
  obtain ⟨vt, vk, vi, vn, vm, vp, vs, h0, ht, hk, hi, hn, hm, hp, hs⟩ := h.out
  exact ⟨vm, hm, run_look W m _ 8 _ _ _ .i32 109 4 _ Try.underlying87 Try.underlying21 h0 rfl false⟩
theorem look_p {W : World} {L m : Nat} (h : FMap W L m) : ∃ v, FOp W L v ∧ (Instr.lookup 87 (.map (some m)) (.int .i32 112) false).run Try.prog W = .ok v W := by
  obtain ⟨vt, vk, vi, vn, vm, vp, vs, h0, ht, hk, hi, hn, hm, hp, hs⟩ := h.out
  exact ⟨vp, hp, run_look W m _ 8 _ _ _ .i32 112 5 _ Try.underlying87 Try.underlying21 h0 rfl false⟩
theorem look_s {W : World} {L m : Nat} (h : FMap W L m) : ∃ v, FOs W L v ∧ (Instr.lookup 87 (.map (some m)) (.int .i32 115) false).run Try.prog W = .ok v W := by
  obtain ⟨vt, vk, vi, vn, vm, vp, vs, h0, ht, hk, hi, hn, hm, hp, hs⟩ := h.out
  exact ⟨vs, hs, run_look W m _ 8 _ _ _ .i32 115 6 _ Try.underlying87 Try.underlying21 h0 rfl false⟩
theorem look_x {W : World} {L m : Nat} (h : FMap W L m) : ∃ v, v = vx ∧ (Instr.lookup 87 (.map (some m)) (.int .i32 120) false).run Try.prog W = .ok v W := by
  obtain ⟨vt, vk, vi, vn, vm, vp, vs, h0, ht, hk, hi, hn, hm, hp, hs⟩ := h.out
  exact ⟨vx, rfl, run_look W m _ 8 _ _ _ .i32 120 7 _ Try.underlying87 Try.underlying21 h0 rfl false⟩
theorem fld0 (a b c : Value) (w : World) : (Instr.field 86 (.agg #[a, b, c]) 0).run Try.prog w = .ok a w := by kernel_rfl
theorem fld1 (a b c : Value) (w : World) : (Instr.field 86 (.agg #[a, b, c]) 1).run Try.prog w = .ok b w := by kernel_rfl
theorem fld2 (a b c : Value) (w : World) : (Instr.field 86 (.agg #[a, b, c]) 2).run Try.prog w = .ok c w := by kernel_rfl
theorem iterPos_of {w : World} {k : Nat} {s : ByteArray} {p : Nat} (h : w.heap[k]? = some (.stringIter s p)) : w.iterPos k = p := by simp [World.iterPos, h]
theorem put_len {x : RQ} {L : List Int} {l : List Nat} {pos c : Nat} (h1 : beN 1 x.f0 ++ encAll x (l.take pos) = L) (h2 : l.take (pos + 1) = l.take pos ++ [c]) : (beN 1 x.f0 ++ encAll x (l.take (pos + 1))).length = L.length + (encF x c).length := by
  rw [h2, encAll_snoc, ← List.append_assoc, h1, List.length_append]
theorem put_new {x : RQ} {L R : List Int} {l : List Nat} {pos c c3 it n0 : Nat} {A3 : Option Addr} {W1 W2 W3 : World} (h1 : beN 1 x.f0 ++ encAll x (l.take pos) = L) (h2 : l.take (pos + 1) = l.take pos ++ [c])
    (hr : Kd.R (Kd.int .u8) 5 W3 W2.heap.size (fun _ => True) (.slice A3 R.length c3) R) (hs : W1.heap.size ≤ W2.heap.size) (hi : it < W1.heap.size) (hn : n0 ≤ W1.heap.size) (h3 : R = L ++ encF x c) :
    Kd.R (Kd.int .u8) 5 W3 n0 (fun k => k ≠ it) (.slice A3 (beN 1 x.f0 ++ encAll x (l.take (pos + 1))).length c3) (beN 1 x.f0 ++ encAll x (l.take (pos + 1))) := by
  have e : R = beN 1 x.f0 ++ encAll x (l.take (pos + 1)) := by rw [h2, encAll_snoc, ← List.append_assoc, h1, h3]
  rw [← e]
  exact Kd.R_mono (Kd.R_lower (Kd.R_bound hr) (by omega)) (fun k hk => by have := hk.2.1; omega)
/-- The cells of a request. -/
theorem rq_cells {W : World} {q n c : Nat} {x : RQ} {A : Option Addr} (h : W.heap[q]? = some (.cells (rqC x A n c) 27 (0, 0))) :
    W.cell? ⟨q, 0, none⟩ = some (.int .u8 x.f0) ∧ W.cell? ⟨q, 1, none⟩ = some (.int .u32 x.f1) ∧ W.cell? ⟨q, 2, none⟩ = some (.string x.f2) ∧ W.cell? ⟨q, 3, none⟩ = some (.int .u32 x.f3) ∧ W.cell? ⟨q, 4, none⟩ = some (.int .i64 x.f4) ∧ W.cell? ⟨q, 5, none⟩ = some (.int .i64 x.f5) ∧ W.cell? ⟨q, 6, none⟩ = some (.int .i64 x.f6) ∧ W.cell? ⟨q, 7, none⟩ = some (.string x.f7) ∧ W.cell? ⟨q, 8, none⟩ = some (.int .u32 x.f8.f0) ∧ W.cell? ⟨q, 9, none⟩ = some (.int .i64 x.f8.f1) ∧ W.cell? ⟨q, 10, none⟩ = some (.int .i64 x.f8.f2) ∧ W.cell? ⟨q, 11, none⟩ = some (.int .i64 x.f8.f3) ∧ W.cell? ⟨q, 12, none⟩ = some (.int .i64 x.f8.f4) ∧ W.cell? ⟨q, 13, none⟩ = some (.int .i64 x.f8.f5) ∧ W.cell? ⟨q, 14, none⟩ = some (.slice A n c) := by
  refine ⟨(cell_of_row W q 0 _ _ _ h).trans rfl, (cell_of_row W q 1 _ _ _ h).trans rfl, (cell_of_row W q 2 _ _ _ h).trans rfl, (cell_of_row W q 3 _ _ _ h).trans rfl, (cell_of_row W q 4 _ _ _ h).trans rfl, (cell_of_row W q 5 _ _ _ h).trans rfl, (cell_of_row W q 6 _ _ _ h).trans rfl, (cell_of_row W q 7 _ _ _ h).trans rfl, (cell_of_row W q 8 _ _ _ h).trans rfl, (cell_of_row W q 9 _ _ _ h).trans rfl, (cell_of_row W q 10 _ _ _ h).trans rfl, (cell_of_row W q 11 _ _ _ h).trans rfl, (cell_of_row W q 12 _ _ _ h).trans rfl, (cell_of_row W q 13 _ _ _ h).trans rfl, (cell_of_row W q 14 _ _ _ h).trans rfl⟩
set_option maxRecDepth 100000 in
set_option maxHeartbeats 12800000 in
theorem put_calls (x : RQ) (A2 : Option Addr) (c2 : Nat) (s : ByteArray) (w : World) (hC : Kd.C k39 w A2 x.f8.f6.length x.f8.f6) (hc : x.f8.f6.length ≤ c2) (hs : ∀ c ∈ sg s, IsSign c) (hl : s.size ≤ 10) (hx : RqOk x) :
    Calls Try.prog 23 #[.agg (rqC x A2 x.f8.f6.length c2), .string s] w fun e w' => ∃ v0 : Value, e = .returned v0 ∧ Kd.R (Kd.int .u8) 5 w' w.heap.size (fun _ => True) v0 (beN 1 x.f0 ++ encAll x (sg s)) ∧ Below w.heap.size w w' := by
  have HC := Aside0.mk hC
  have HX := Aside0.mk hx
  have HS := Aside0.mk hs
  have k0 := hx.k0
  have HL0 := Aside0.mk (below_alloc (Below.refl _ w) (.cells (rqC x A2 x.f8.f6.length c2) 27))
  have KB := Aside0.mk (Byte_any none 0 [] x.f0 _ (Kd.C_nil (Kd.int .u8) (w.alloc (.cells (rqC x A2 x.f8.f6.length c2) 27))) (by simp) k0.1 k0.2)
  simp only [List.length_nil, List.nil_append] at KB
  have HQ0 := Aside0.mk (Blk.new_ (W := w) (o := .cells (rqC x A2 x.f8.f6.length c2) 27)).out
  obtain ⟨q, hq⟩ : ∃ q, w.heap.size = q := ⟨_, rfl⟩
  rw [hq] at HQ0
  clear hC hx hs k0
  go_enter Try.func23, Try.ntmps23
  go_wp2_with fail
  (with_reducible refine KB.out.mono ?_)
  rintro e w1 ⟨v0, rfl, hr1, hb1⟩
  rw [← show beN 1 x.f0 ++ encAll x ((sg s).take 0) = beN 1 x.f0 from List.append_nil _] at hr1
  obtain ⟨A0, c0, rfl⟩ := Kd.R_slice hr1
  have HR1 := Aside0.mk (Kd.R_lower (base' := w.heap.size) hr1 HL0.out.size)
  have hb1s := Aside0.mk hb1.size
  have HB1 := Aside0.mk (below_step HL0.out hb1)
  have HQ1 := Aside0.mk ((hb1.block q (by rw [← hq]; simp)).trans HQ0.out)
  clear hr1 hb1 KB HQ0
  obtain ⟨it, hit⟩ : ∃ it, w1.heap.size = it := ⟨_, rfl⟩
  go_wp2_with fail
  have hitq : q < it := by rw [← hit, ← hq]; have := hb1s.out; simp at this; omega
  have HI0 := Aside0.mk (heap_new' w1 (.stringIter s 0) hit.symm)
  have HR2 := Aside0.mk (Kd.R_alloc (Kd.R_mono (ok' := fun k => k ≠ it) (Kd.R_bound HR1.out) (fun k hk => by have := hk.2.2.1; omega)) (.stringIter s 0))
  have HB2 := Aside0.mk (below_alloc HB1.out (.stringIter s 0))
  have HQ2 := Aside0.mk (heap_alloc_lt w1 (.stringIter s 0) (by omega) HQ1.out)
  clear HR1 HB1 HQ1
  go_loopw [5] (fun v wr => ∃ (pos : Nat) (A1 : Option Addr) (n1 c1 : Nat), v = .slice A1 n1 c1 ∧ Aside0 (n1 = (beN 1 x.f0 ++ encAll x ((sg s).take pos)).length) ∧ pos ≤ s.size ∧ wr.heap[it]? = some (.stringIter s pos) ∧ Aside0 (Kd.R (Kd.int .u8) 5 wr w.heap.size (fun k => k ≠ it) (.slice A1 (beN 1 x.f0 ++ encAll x ((sg s).take pos)).length c1) (beN 1 x.f0 ++ encAll x ((sg s).take pos))) ∧ Aside0 (Below w.heap.size w wr) ∧ Aside0 (wr.heap[q]? = some (.cells (rqC x A2 x.f8.f6.length c2) 27 (0, 0)))) (fun _ wr => s.size - wr.iterPos it)
  case atStart => exact ⟨0, A0, _, c0, rfl, ⟨by simp⟩, Nat.zero_le _, HI0.out, HR2, HB2, HQ2⟩
  case round =>
    obtain ⟨pos, A1, n1, c1, rfl, hn1, hpos, hi, HR, HB, HQ⟩ := hrel
    by_cases hp : pos < s.size
    · have hn1 := hn1.out
      subst hn1
      obtain ⟨c, hcc⟩ : ∃ c, (sg s)[pos]? = some c := ⟨_, List.getElem?_eq_getElem (by rw [sg_len]; exact hp)⟩
      have hsgn := HS.out c (List.mem_of_getElem? hcc)
      have hc128 : c < 128 := by unfold IsSign at hsgn; omega
      have hnx := fun ty => next_sign wr it s pos ty hi c hcc hc128
      obtain ⟨W1, hW1⟩ : ∃ W1, wr.iterAt it s (pos + 1) = W1 := ⟨_, rfl⟩
      rw [hW1] at hnx
      have hsz1 : W1.heap.size = wr.heap.size := by rw [← hW1]; exact Lib.iterAt_size _ _ _ _
      have HI1 : Aside0 (W1.heap[it]? = some (.stringIter s (pos + 1))) := ⟨by rw [← hW1]; exact Lib.iterAt_heap wr it s pos (pos + 1) hi⟩
      have HR1 : Aside0 (Kd.R (Kd.int .u8) 5 W1 w.heap.size (fun k => k ≠ it) (.slice A1 (beN 1 x.f0 ++ encAll x ((sg s).take pos)).length c1) (beN 1 x.f0 ++ encAll x ((sg s).take pos))) := ⟨by rw [← hW1]; exact Kd.R_step HR.out (fun k hk _ => Lib.iterAt_other wr it k s (pos + 1) hk)⟩
      have HB1 : Aside0 (Below w.heap.size w W1) := ⟨by rw [← hW1]; exact Lib.below_iterAt HB.out (by omega) s (pos + 1)⟩
      have HQ1 : Aside0 (W1.heap[q]? = some (.cells (rqC x A2 x.f8.f6.length c2) 27 (0, 0))) := ⟨by rw [← hW1]; exact (Lib.iterAt_other wr it q s (pos + 1) (by omega)).trans HQ.out⟩
      have hil : it < W1.heap.size := by rw [hsz1]; exact (Array.getElem?_eq_some_iff.1 hi).1
      have HIP := Aside0.mk (show wr.iterPos it = pos by simp [World.iterPos, hi])
      have HL1 := Aside0.mk (show (beN 1 x.f0 ++ encAll x ((sg s).take pos)).length ≤ 100000000 by have := encAll_len HX.out ((sg s).take pos); rw [List.length_append, beN_length]; rw [List.length_take, sg_len] at this; omega)
      have HRC := Aside0.mk (Kd.R_reads' HR1.out).2.2
      have HT := Aside0.mk (take_sg hcc)
      obtain ⟨L, hL⟩ : ∃ L, beN 1 x.f0 ++ encAll x ((sg s).take pos) = L := ⟨_, rfl⟩
      have HLE := Aside0.mk hL
      rw [hL] at HR1 HL1 HRC ⊢
      have hfd := fld0
      have Sall : Aside0 (∀ W : World, Below W1.heap.size W1 W → W.cell? ⟨q, 0, none⟩ = some (.int .u8 x.f0) ∧ W.cell? ⟨q, 1, none⟩ = some (.int .u32 x.f1) ∧ W.cell? ⟨q, 2, none⟩ = some (.string x.f2) ∧ W.cell? ⟨q, 3, none⟩ = some (.int .u32 x.f3) ∧ W.cell? ⟨q, 4, none⟩ = some (.int .i64 x.f4) ∧ W.cell? ⟨q, 5, none⟩ = some (.int .i64 x.f5) ∧ W.cell? ⟨q, 6, none⟩ = some (.int .i64 x.f6) ∧ W.cell? ⟨q, 7, none⟩ = some (.string x.f7) ∧ W.cell? ⟨q, 8, none⟩ = some (.int .u32 x.f8.f0) ∧ W.cell? ⟨q, 9, none⟩ = some (.int .i64 x.f8.f1) ∧ W.cell? ⟨q, 10, none⟩ = some (.int .i64 x.f8.f2) ∧ W.cell? ⟨q, 11, none⟩ = some (.int .i64 x.f8.f3) ∧ W.cell? ⟨q, 12, none⟩ = some (.int .i64 x.f8.f4) ∧ W.cell? ⟨q, 13, none⟩ = some (.int .i64 x.f8.f5) ∧ W.cell? ⟨q, 14, none⟩ = some (.slice A2 x.f8.f6.length c2) ∧ Below W1.heap.size W1 W) := ⟨fun W hW => by obtain ⟨a0, a1, a2, a3, a4, a5, a6, a7, a8, a9, a10, a11, a12, a13, a14⟩ := rq_cells ((hW.block q (by omega)).trans HQ1.out); exact ⟨a0, a1, a2, a3, a4, a5, a6, a7, a8, a9, a10, a11, a12, a13, a14, hW⟩⟩
      have K0 := Aside0.mk (below_drew (Below.refl W1.heap.size W1))
      clear hW1 HR HB HQ hi hL
      unfold IsSign at hsgn
      rcases hsgn with rfl | rfl | rfl | rfl | rfl | rfl | rfl | rfl
      all_goals try (go_wp2_with fail)
      · refine wp_region_noPanic ?_
        go_region_held (fun W : World => W.cell? ⟨q, 0, none⟩ = some (.int .u8 x.f0) ∧ W.cell? ⟨q, 1, none⟩ = some (.int .u32 x.f1) ∧ W.cell? ⟨q, 2, none⟩ = some (.string x.f2) ∧ W.cell? ⟨q, 3, none⟩ = some (.int .u32 x.f3) ∧ W.cell? ⟨q, 4, none⟩ = some (.int .i64 x.f4) ∧ W.cell? ⟨q, 5, none⟩ = some (.int .i64 x.f5) ∧ W.cell? ⟨q, 6, none⟩ = some (.int .i64 x.f6) ∧ W.cell? ⟨q, 7, none⟩ = some (.string x.f7) ∧ W.cell? ⟨q, 8, none⟩ = some (.int .u32 x.f8.f0) ∧ W.cell? ⟨q, 9, none⟩ = some (.int .i64 x.f8.f1) ∧ W.cell? ⟨q, 10, none⟩ = some (.int .i64 x.f8.f2) ∧ W.cell? ⟨q, 11, none⟩ = some (.int .i64 x.f8.f3) ∧ W.cell? ⟨q, 12, none⟩ = some (.int .i64 x.f8.f4) ∧ W.cell? ⟨q, 13, none⟩ = some (.int .i64 x.f8.f5) ∧ W.cell? ⟨q, 14, none⟩ = some (.slice A2 x.f8.f6.length c2) ∧ Below W1.heap.size W1 W)
          (first | exact Sall.out _ K0.out | exact Sall.out _ K1.out | exact Sall.out _ K2.out)
          (first
            | (go_at_call 47; (with_reducible refine (fields_calls _).mono ?_); rintro e w2 ⟨m, rfl, hLm, hF, hb2⟩; (have K1 := Aside0.mk (below_step K0.out hb2)); (obtain ⟨fv, hfv, hlk⟩ := look_t hF); (obtain ⟨a, l, rfl, hla, hba, hll, hbl⟩ := hfv); (have KA := Aside0.mk hba); clear hF hb2 hba hbl hll)
            | (go_at_call 88; (with_reducible refine (put_t A1 c1 L x A2 c2 a _ (Kd.C_below HRC.out K1.out) HL1.out HX.out.k1.1 HX.out.k1.2 KA.out).mono ?_); rintro e w3 ⟨v3, rfl, hr3, hb3⟩; (obtain ⟨A3, c3, e3⟩ := Kd.R_slice hr3); subst e3; (have HR3 := Aside0.mk (put_new HLE.out HT.out hr3 K1.out.size (by omega) HB1.out.size (by simp [encF]))); (have K2 := Aside0.mk (below_step K1.out hb3)); clear hr3 hb3))
        refine NoPanic.normal ?_
        go_wp2_with fail
        go_roundw
        case rel => exact ⟨pos + 1, A3, _, c3, rfl, ⟨by rw [put_len HLE.out HT.out]; simp [encF]⟩, by omega, (K2.out.block it hil).trans HI1.out, ⟨HR3.out⟩, ⟨below_step HB1.out K2.out⟩, ⟨(K2.out.block q (by omega)).trans HQ1.out⟩⟩
        case measure => rw [iterPos_of ((K2.out.block it hil).trans HI1.out), HIP.out]; omega
      · refine wp_region_noPanic ?_
        go_region_held (fun W : World => W.cell? ⟨q, 0, none⟩ = some (.int .u8 x.f0) ∧ W.cell? ⟨q, 1, none⟩ = some (.int .u32 x.f1) ∧ W.cell? ⟨q, 2, none⟩ = some (.string x.f2) ∧ W.cell? ⟨q, 3, none⟩ = some (.int .u32 x.f3) ∧ W.cell? ⟨q, 4, none⟩ = some (.int .i64 x.f4) ∧ W.cell? ⟨q, 5, none⟩ = some (.int .i64 x.f5) ∧ W.cell? ⟨q, 6, none⟩ = some (.int .i64 x.f6) ∧ W.cell? ⟨q, 7, none⟩ = some (.string x.f7) ∧ W.cell? ⟨q, 8, none⟩ = some (.int .u32 x.f8.f0) ∧ W.cell? ⟨q, 9, none⟩ = some (.int .i64 x.f8.f1) ∧ W.cell? ⟨q, 10, none⟩ = some (.int .i64 x.f8.f2) ∧ W.cell? ⟨q, 11, none⟩ = some (.int .i64 x.f8.f3) ∧ W.cell? ⟨q, 12, none⟩ = some (.int .i64 x.f8.f4) ∧ W.cell? ⟨q, 13, none⟩ = some (.int .i64 x.f8.f5) ∧ W.cell? ⟨q, 14, none⟩ = some (.slice A2 x.f8.f6.length c2) ∧ Below W1.heap.size W1 W)
          (first | exact Sall.out _ K0.out | exact Sall.out _ K1.out | exact Sall.out _ K2.out)
          (first
            | (go_at_call 47; (with_reducible refine (fields_calls _).mono ?_); rintro e w2 ⟨m, rfl, hLm, hF, hb2⟩; (have K1 := Aside0.mk (below_step K0.out hb2)); (obtain ⟨fv, hfv, hlk⟩ := look_k hF); (obtain ⟨a, l, rfl, hla, hba, hll, hbl⟩ := hfv); (have KA := Aside0.mk hba); clear hF hb2 hba hbl hll)
            | (go_at_call 91; (with_reducible refine (put_k A1 c1 L x A2 c2 a _ (Kd.C_below HRC.out K1.out) HL1.out HX.out.k2 KA.out).mono ?_); rintro e w3 ⟨v3, rfl, hr3, hb3⟩; (obtain ⟨A3, c3, e3⟩ := Kd.R_slice hr3); subst e3; (have HR3 := Aside0.mk (put_new HLE.out HT.out hr3 K1.out.size (by omega) HB1.out.size (by simp [encF]))); (have K2 := Aside0.mk (below_step K1.out hb3)); clear hr3 hb3))
        refine NoPanic.normal ?_
        go_wp2_with fail
        go_roundw
        case rel => exact ⟨pos + 1, A3, _, c3, rfl, ⟨by rw [put_len HLE.out HT.out]; simp [encF]⟩, by omega, (K2.out.block it hil).trans HI1.out, ⟨HR3.out⟩, ⟨below_step HB1.out K2.out⟩, ⟨(K2.out.block q (by omega)).trans HQ1.out⟩⟩
        case measure => rw [iterPos_of ((K2.out.block it hil).trans HI1.out), HIP.out]; omega
      · refine wp_region_noPanic ?_
        go_region_held (fun W : World => W.cell? ⟨q, 0, none⟩ = some (.int .u8 x.f0) ∧ W.cell? ⟨q, 1, none⟩ = some (.int .u32 x.f1) ∧ W.cell? ⟨q, 2, none⟩ = some (.string x.f2) ∧ W.cell? ⟨q, 3, none⟩ = some (.int .u32 x.f3) ∧ W.cell? ⟨q, 4, none⟩ = some (.int .i64 x.f4) ∧ W.cell? ⟨q, 5, none⟩ = some (.int .i64 x.f5) ∧ W.cell? ⟨q, 6, none⟩ = some (.int .i64 x.f6) ∧ W.cell? ⟨q, 7, none⟩ = some (.string x.f7) ∧ W.cell? ⟨q, 8, none⟩ = some (.int .u32 x.f8.f0) ∧ W.cell? ⟨q, 9, none⟩ = some (.int .i64 x.f8.f1) ∧ W.cell? ⟨q, 10, none⟩ = some (.int .i64 x.f8.f2) ∧ W.cell? ⟨q, 11, none⟩ = some (.int .i64 x.f8.f3) ∧ W.cell? ⟨q, 12, none⟩ = some (.int .i64 x.f8.f4) ∧ W.cell? ⟨q, 13, none⟩ = some (.int .i64 x.f8.f5) ∧ W.cell? ⟨q, 14, none⟩ = some (.slice A2 x.f8.f6.length c2) ∧ Below W1.heap.size W1 W)
          (first | exact Sall.out _ K0.out | exact Sall.out _ K1.out | exact Sall.out _ K2.out)
          (first
            | (go_at_call 47; (with_reducible refine (fields_calls _).mono ?_); rintro e w2 ⟨m, rfl, hLm, hF, hb2⟩; (have K1 := Aside0.mk (below_step K0.out hb2)); (obtain ⟨fv, hfv, hlk⟩ := look_i hF); (obtain ⟨a, l, rfl, hla, hba, hll, hbl⟩ := hfv); (have KA := Aside0.mk hba); clear hF hb2 hba hbl hll)
            | (go_at_call 88; (with_reducible refine (put_i A1 c1 L x A2 c2 a _ (Kd.C_below HRC.out K1.out) HL1.out HX.out.k3.1 HX.out.k3.2 KA.out).mono ?_); rintro e w3 ⟨v3, rfl, hr3, hb3⟩; (obtain ⟨A3, c3, e3⟩ := Kd.R_slice hr3); subst e3; (have HR3 := Aside0.mk (put_new HLE.out HT.out hr3 K1.out.size (by omega) HB1.out.size (by simp [encF]))); (have K2 := Aside0.mk (below_step K1.out hb3)); clear hr3 hb3))
        refine NoPanic.normal ?_
        go_wp2_with fail
        go_roundw
        case rel => exact ⟨pos + 1, A3, _, c3, rfl, ⟨by rw [put_len HLE.out HT.out]; simp [encF]⟩, by omega, (K2.out.block it hil).trans HI1.out, ⟨HR3.out⟩, ⟨below_step HB1.out K2.out⟩, ⟨(K2.out.block q (by omega)).trans HQ1.out⟩⟩
        case measure => rw [iterPos_of ((K2.out.block it hil).trans HI1.out), HIP.out]; omega
      · refine wp_region_noPanic ?_
        go_region_held (fun W : World => W.cell? ⟨q, 0, none⟩ = some (.int .u8 x.f0) ∧ W.cell? ⟨q, 1, none⟩ = some (.int .u32 x.f1) ∧ W.cell? ⟨q, 2, none⟩ = some (.string x.f2) ∧ W.cell? ⟨q, 3, none⟩ = some (.int .u32 x.f3) ∧ W.cell? ⟨q, 4, none⟩ = some (.int .i64 x.f4) ∧ W.cell? ⟨q, 5, none⟩ = some (.int .i64 x.f5) ∧ W.cell? ⟨q, 6, none⟩ = some (.int .i64 x.f6) ∧ W.cell? ⟨q, 7, none⟩ = some (.string x.f7) ∧ W.cell? ⟨q, 8, none⟩ = some (.int .u32 x.f8.f0) ∧ W.cell? ⟨q, 9, none⟩ = some (.int .i64 x.f8.f1) ∧ W.cell? ⟨q, 10, none⟩ = some (.int .i64 x.f8.f2) ∧ W.cell? ⟨q, 11, none⟩ = some (.int .i64 x.f8.f3) ∧ W.cell? ⟨q, 12, none⟩ = some (.int .i64 x.f8.f4) ∧ W.cell? ⟨q, 13, none⟩ = some (.int .i64 x.f8.f5) ∧ W.cell? ⟨q, 14, none⟩ = some (.slice A2 x.f8.f6.length c2) ∧ Below W1.heap.size W1 W)
          (first | exact Sall.out _ K0.out | exact Sall.out _ K1.out | exact Sall.out _ K2.out)
          (first
            | (go_at_call 47; (with_reducible refine (fields_calls _).mono ?_); rintro e w2 ⟨m, rfl, hLm, hF, hb2⟩; (have K1 := Aside0.mk (below_step K0.out hb2)); (obtain ⟨fv, hfv, hlk⟩ := look_n hF); (obtain ⟨a, rfl, hla, hba⟩ := hfv); (have KA := Aside0.mk hba); clear hF hb2 hba)
            | (go_at_call 94; (with_reducible refine (put_n A1 c1 L x A2 c2 a _ (Kd.C_below HRC.out K1.out) HL1.out KA.out).mono ?_); rintro e w3 ⟨v3, rfl, hr3, hb3⟩; (obtain ⟨A3, c3, e3⟩ := Kd.R_slice hr3); subst e3; (have HR3 := Aside0.mk (put_new HLE.out HT.out hr3 K1.out.size (by omega) HB1.out.size (by simp [encF]))); (have K2 := Aside0.mk (below_step K1.out hb3)); clear hr3 hb3))
        refine NoPanic.normal ?_
        go_wp2_with fail
        go_roundw
        case rel => exact ⟨pos + 1, A3, _, c3, rfl, ⟨by rw [put_len HLE.out HT.out]; simp [encF]⟩, by omega, (K2.out.block it hil).trans HI1.out, ⟨HR3.out⟩, ⟨below_step HB1.out K2.out⟩, ⟨(K2.out.block q (by omega)).trans HQ1.out⟩⟩
        case measure => rw [iterPos_of ((K2.out.block it hil).trans HI1.out), HIP.out]; omega
      · refine wp_region_noPanic ?_
        go_region_held (fun W : World => W.cell? ⟨q, 0, none⟩ = some (.int .u8 x.f0) ∧ W.cell? ⟨q, 1, none⟩ = some (.int .u32 x.f1) ∧ W.cell? ⟨q, 2, none⟩ = some (.string x.f2) ∧ W.cell? ⟨q, 3, none⟩ = some (.int .u32 x.f3) ∧ W.cell? ⟨q, 4, none⟩ = some (.int .i64 x.f4) ∧ W.cell? ⟨q, 5, none⟩ = some (.int .i64 x.f5) ∧ W.cell? ⟨q, 6, none⟩ = some (.int .i64 x.f6) ∧ W.cell? ⟨q, 7, none⟩ = some (.string x.f7) ∧ W.cell? ⟨q, 8, none⟩ = some (.int .u32 x.f8.f0) ∧ W.cell? ⟨q, 9, none⟩ = some (.int .i64 x.f8.f1) ∧ W.cell? ⟨q, 10, none⟩ = some (.int .i64 x.f8.f2) ∧ W.cell? ⟨q, 11, none⟩ = some (.int .i64 x.f8.f3) ∧ W.cell? ⟨q, 12, none⟩ = some (.int .i64 x.f8.f4) ∧ W.cell? ⟨q, 13, none⟩ = some (.int .i64 x.f8.f5) ∧ W.cell? ⟨q, 14, none⟩ = some (.slice A2 x.f8.f6.length c2) ∧ Below W1.heap.size W1 W)
          (first | exact Sall.out _ K0.out | exact Sall.out _ K1.out | exact Sall.out _ K2.out)
          (first
            | (go_at_call 47; (with_reducible refine (fields_calls _).mono ?_); rintro e w2 ⟨m, rfl, hLm, hF, hb2⟩; (have K1 := Aside0.mk (below_step K0.out hb2)); (obtain ⟨fv, hfv, hlk⟩ := look_m hF); (obtain ⟨a, rfl, hla, hba⟩ := hfv); (have KA := Aside0.mk hba); clear hF hb2 hba)
            | (go_at_call 94; (with_reducible refine (put_m A1 c1 L x A2 c2 a _ (Kd.C_below HRC.out K1.out) HL1.out KA.out).mono ?_); rintro e w3 ⟨v3, rfl, hr3, hb3⟩; (obtain ⟨A3, c3, e3⟩ := Kd.R_slice hr3); subst e3; (have HR3 := Aside0.mk (put_new HLE.out HT.out hr3 K1.out.size (by omega) HB1.out.size (by simp [encF]))); (have K2 := Aside0.mk (below_step K1.out hb3)); clear hr3 hb3))
        refine NoPanic.normal ?_
        go_wp2_with fail
        go_roundw
        case rel => exact ⟨pos + 1, A3, _, c3, rfl, ⟨by rw [put_len HLE.out HT.out]; simp [encF]⟩, by omega, (K2.out.block it hil).trans HI1.out, ⟨HR3.out⟩, ⟨below_step HB1.out K2.out⟩, ⟨(K2.out.block q (by omega)).trans HQ1.out⟩⟩
        case measure => rw [iterPos_of ((K2.out.block it hil).trans HI1.out), HIP.out]; omega
      · refine wp_region_noPanic ?_
        go_region_held (fun W : World => W.cell? ⟨q, 0, none⟩ = some (.int .u8 x.f0) ∧ W.cell? ⟨q, 1, none⟩ = some (.int .u32 x.f1) ∧ W.cell? ⟨q, 2, none⟩ = some (.string x.f2) ∧ W.cell? ⟨q, 3, none⟩ = some (.int .u32 x.f3) ∧ W.cell? ⟨q, 4, none⟩ = some (.int .i64 x.f4) ∧ W.cell? ⟨q, 5, none⟩ = some (.int .i64 x.f5) ∧ W.cell? ⟨q, 6, none⟩ = some (.int .i64 x.f6) ∧ W.cell? ⟨q, 7, none⟩ = some (.string x.f7) ∧ W.cell? ⟨q, 8, none⟩ = some (.int .u32 x.f8.f0) ∧ W.cell? ⟨q, 9, none⟩ = some (.int .i64 x.f8.f1) ∧ W.cell? ⟨q, 10, none⟩ = some (.int .i64 x.f8.f2) ∧ W.cell? ⟨q, 11, none⟩ = some (.int .i64 x.f8.f3) ∧ W.cell? ⟨q, 12, none⟩ = some (.int .i64 x.f8.f4) ∧ W.cell? ⟨q, 13, none⟩ = some (.int .i64 x.f8.f5) ∧ W.cell? ⟨q, 14, none⟩ = some (.slice A2 x.f8.f6.length c2) ∧ Below W1.heap.size W1 W)
          (first | exact Sall.out _ K0.out | exact Sall.out _ K1.out | exact Sall.out _ K2.out)
          (first
            | (go_at_call 47; (with_reducible refine (fields_calls _).mono ?_); rintro e w2 ⟨m, rfl, hLm, hF, hb2⟩; (have K1 := Aside0.mk (below_step K0.out hb2)); (obtain ⟨fv, hfv, hlk⟩ := look_p hF); (obtain ⟨a, rfl, hla, hba⟩ := hfv); (have KA := Aside0.mk hba); clear hF hb2 hba)
            | (go_at_call 94; (with_reducible refine (put_p A1 c1 L x A2 c2 a _ (Kd.C_below HRC.out K1.out) HL1.out KA.out).mono ?_); rintro e w3 ⟨v3, rfl, hr3, hb3⟩; (obtain ⟨A3, c3, e3⟩ := Kd.R_slice hr3); subst e3; (have HR3 := Aside0.mk (put_new HLE.out HT.out hr3 K1.out.size (by omega) HB1.out.size (by simp [encF]))); (have K2 := Aside0.mk (below_step K1.out hb3)); clear hr3 hb3))
        refine NoPanic.normal ?_
        go_wp2_with fail
        go_roundw
        case rel => exact ⟨pos + 1, A3, _, c3, rfl, ⟨by rw [put_len HLE.out HT.out]; simp [encF]⟩, by omega, (K2.out.block it hil).trans HI1.out, ⟨HR3.out⟩, ⟨below_step HB1.out K2.out⟩, ⟨(K2.out.block q (by omega)).trans HQ1.out⟩⟩
        case measure => rw [iterPos_of ((K2.out.block it hil).trans HI1.out), HIP.out]; omega
      · refine wp_region_noPanic ?_
        go_region_held (fun W : World => W.cell? ⟨q, 0, none⟩ = some (.int .u8 x.f0) ∧ W.cell? ⟨q, 1, none⟩ = some (.int .u32 x.f1) ∧ W.cell? ⟨q, 2, none⟩ = some (.string x.f2) ∧ W.cell? ⟨q, 3, none⟩ = some (.int .u32 x.f3) ∧ W.cell? ⟨q, 4, none⟩ = some (.int .i64 x.f4) ∧ W.cell? ⟨q, 5, none⟩ = some (.int .i64 x.f5) ∧ W.cell? ⟨q, 6, none⟩ = some (.int .i64 x.f6) ∧ W.cell? ⟨q, 7, none⟩ = some (.string x.f7) ∧ W.cell? ⟨q, 8, none⟩ = some (.int .u32 x.f8.f0) ∧ W.cell? ⟨q, 9, none⟩ = some (.int .i64 x.f8.f1) ∧ W.cell? ⟨q, 10, none⟩ = some (.int .i64 x.f8.f2) ∧ W.cell? ⟨q, 11, none⟩ = some (.int .i64 x.f8.f3) ∧ W.cell? ⟨q, 12, none⟩ = some (.int .i64 x.f8.f4) ∧ W.cell? ⟨q, 13, none⟩ = some (.int .i64 x.f8.f5) ∧ W.cell? ⟨q, 14, none⟩ = some (.slice A2 x.f8.f6.length c2) ∧ Below W1.heap.size W1 W)
          (first | exact Sall.out _ K0.out | exact Sall.out _ K1.out | exact Sall.out _ K2.out)
          (first
            | (go_at_call 47; (with_reducible refine (fields_calls _).mono ?_); rintro e w2 ⟨m, rfl, hLm, hF, hb2⟩; (have K1 := Aside0.mk (below_step K0.out hb2)); (obtain ⟨fv, hfv, hlk⟩ := look_s hF); (obtain ⟨a, l, rfl, hla, hba, hll, hbl⟩ := hfv); (have KA := Aside0.mk hba); clear hF hb2 hba hbl hll)
            | (go_at_call 91; (with_reducible refine (put_s A1 c1 L x A2 c2 a _ (Kd.C_below HRC.out K1.out) HL1.out HX.out.k7 KA.out).mono ?_); rintro e w3 ⟨v3, rfl, hr3, hb3⟩; (obtain ⟨A3, c3, e3⟩ := Kd.R_slice hr3); subst e3; (have HR3 := Aside0.mk (put_new HLE.out HT.out hr3 K1.out.size (by omega) HB1.out.size (by simp [encF]))); (have K2 := Aside0.mk (below_step K1.out hb3)); clear hr3 hb3))
        refine NoPanic.normal ?_
        go_wp2_with fail
        go_roundw
        case rel => exact ⟨pos + 1, A3, _, c3, rfl, ⟨by rw [put_len HLE.out HT.out]; simp [encF]⟩, by omega, (K2.out.block it hil).trans HI1.out, ⟨HR3.out⟩, ⟨below_step HB1.out K2.out⟩, ⟨(K2.out.block q (by omega)).trans HQ1.out⟩⟩
        case measure => rw [iterPos_of ((K2.out.block it hil).trans HI1.out), HIP.out]; omega
      · refine wp_region_noPanic ?_
        go_region_held (fun W : World => W.cell? ⟨q, 0, none⟩ = some (.int .u8 x.f0) ∧ W.cell? ⟨q, 1, none⟩ = some (.int .u32 x.f1) ∧ W.cell? ⟨q, 2, none⟩ = some (.string x.f2) ∧ W.cell? ⟨q, 3, none⟩ = some (.int .u32 x.f3) ∧ W.cell? ⟨q, 4, none⟩ = some (.int .i64 x.f4) ∧ W.cell? ⟨q, 5, none⟩ = some (.int .i64 x.f5) ∧ W.cell? ⟨q, 6, none⟩ = some (.int .i64 x.f6) ∧ W.cell? ⟨q, 7, none⟩ = some (.string x.f7) ∧ W.cell? ⟨q, 8, none⟩ = some (.int .u32 x.f8.f0) ∧ W.cell? ⟨q, 9, none⟩ = some (.int .i64 x.f8.f1) ∧ W.cell? ⟨q, 10, none⟩ = some (.int .i64 x.f8.f2) ∧ W.cell? ⟨q, 11, none⟩ = some (.int .i64 x.f8.f3) ∧ W.cell? ⟨q, 12, none⟩ = some (.int .i64 x.f8.f4) ∧ W.cell? ⟨q, 13, none⟩ = some (.int .i64 x.f8.f5) ∧ W.cell? ⟨q, 14, none⟩ = some (.slice A2 x.f8.f6.length c2) ∧ Below W1.heap.size W1 W)
          (first | exact Sall.out _ K0.out | exact Sall.out _ K1.out | exact Sall.out _ K2.out)
          (first
            | (go_at_call 47; (with_reducible refine (fields_calls _).mono ?_); rintro e w2 ⟨m, rfl, hLm, hF, hb2⟩; (have K1 := Aside0.mk (below_step K0.out hb2)); (obtain ⟨fv, hfv, hlk⟩ := look_x hF); (obtain rfl : fv = .agg #[.func (.func 76) #[] #[], .func (.func 77) #[] #[], .func (.func 78) #[] #[]] := hfv); clear hF hb2)
            | (go_at_call 76; (with_reducible refine (put_x A1 c1 L x A2 c2 _ (Kd.C_below HRC.out K1.out) HL1.out (Kd.C_below HC.out (below_step HB1.out K1.out)) hc).mono ?_); rintro e w3 ⟨v3, rfl, hr3, hb3⟩; (obtain ⟨A3, c3, e3⟩ := Kd.R_slice hr3); subst e3; (have HR3 := Aside0.mk (put_new HLE.out HT.out hr3 K1.out.size (by omega) HB1.out.size (by simp [encF]))); (have K2 := Aside0.mk (below_step K1.out hb3)); clear hr3 hb3))
        refine NoPanic.normal ?_
        go_wp2_with fail
        go_roundw
        case rel => exact ⟨pos + 1, A3, _, c3, rfl, ⟨by rw [put_len HLE.out HT.out]; simp [encF]⟩, by omega, (K2.out.block it hil).trans HI1.out, ⟨HR3.out⟩, ⟨below_step HB1.out K2.out⟩, ⟨(K2.out.block q (by omega)).trans HQ1.out⟩⟩
        case measure => rw [iterPos_of ((K2.out.block it hil).trans HI1.out), HIP.out]; omega
    · have hpe : pos = s.size := by omega
      subst hpe
      have hnx := fun ty => Lib.run_next_end_at (P := Try.prog) wr it s s.size ty hi (by omega)
      have hn2 := Aside0.mk hn1.out
      rw [List.take_of_length_le (by rw [sg_len]; exact Nat.le_refl _)] at HR hn2
      clear hn1
      go_wp2_with fail
      go_ret
      subst hq
      refine ⟨.slice A1 n1 c1, rfl, ?_, HB.out⟩
      rw [hn2.out]
      exact Kd.R_mono HR.out (fun _ _ => trivial)
end Go.Proofs.Ytanjkhdagegapaa.Ext
end

section
/- What msg.take comes to, plain; and what it keeps while it goes. -/
namespace Go.Proofs.Ytanjkhdagegapaa.Ext
open Go.RowKit Go.MapKept Go.Shelf Go.Proofs.YtanjkhdagegapaaW.PrintWords Go.Proofs.YtanjkhdagegapaaW.PrintLast Go.Proofs.YtanjkhdagegapaaW.PrintMore Go.Proofs.YtanjkhdagegapaaW.Hand Go.Proofs.Ytanjkhdagegapaa.PZ
set_option linter.unusedVariables false
def fldTake (c : Nat) (x : RQ) (rs : Rs) : RQ × Rs := if c = 116 then ({ x with f1 := rs.u32.1 }, rs.u32.2) else if c = 107 then ({ x with f2 := strOfNums rs.text.1 }, rs.text.2) else if c = 105 then ({ x with f3 := rs.u32.1 }, rs.u32.2) else if c = 110 then ({ x with f4 := rs.int.1 }, rs.int.2) else if c = 109 then ({ x with f5 := rs.int.1 }, rs.int.2) else if c = 112 then ({ x with f6 := rs.int.1 }, rs.int.2) else if c = 115 then ({ x with f7 := strOfNums rs.text.1 }, rs.text.2) else ((rsPlan x rs).1, (rsPlan x rs).2)
def fldMay (c : Nat) (x : RQ) : Bool := if c = 116 then decide (1 ≤ x.f1) else if c = 107 then keyOk x.f2 else if c = 105 then decide (0 ≤ x.f3) else if c = 110 then true else if c = 109 then true else if c = 112 then true else if c = 115 then textOk x.f7 else rqChk x
theorem fldTake_t (x : RQ) (rs : Rs) : fldTake 116 x rs = ({ x with f1 := rs.u32.1 }, rs.u32.2) := by simp [fldTake]
theorem fldMay_t (x : RQ) : fldMay 116 x = (decide (1 ≤ x.f1)) := by simp [fldMay]
theorem fldTake_k (x : RQ) (rs : Rs) : fldTake 107 x rs = ({ x with f2 := strOfNums rs.text.1 }, rs.text.2) := by simp [fldTake]
theorem fldMay_k (x : RQ) : fldMay 107 x = (keyOk x.f2) := by simp [fldMay]
theorem fldTake_i (x : RQ) (rs : Rs) : fldTake 105 x rs = ({ x with f3 := rs.u32.1 }, rs.u32.2) := by simp [fldTake]
theorem fldMay_i (x : RQ) : fldMay 105 x = (decide (0 ≤ x.f3)) := by simp [fldMay]
theorem fldTake_n (x : RQ) (rs : Rs) : fldTake 110 x rs = ({ x with f4 := rs.int.1 }, rs.int.2) := by simp [fldTake]
theorem fldMay_n (x : RQ) : fldMay 110 x = (true) := by simp [fldMay]
theorem fldTake_m (x : RQ) (rs : Rs) : fldTake 109 x rs = ({ x with f5 := rs.int.1 }, rs.int.2) := by simp [fldTake]
theorem fldMay_m (x : RQ) : fldMay 109 x = (true) := by simp [fldMay]
theorem fldTake_p (x : RQ) (rs : Rs) : fldTake 112 x rs = ({ x with f6 := rs.int.1 }, rs.int.2) := by simp [fldTake]
theorem fldMay_p (x : RQ) : fldMay 112 x = (true) := by simp [fldMay]
theorem fldTake_s (x : RQ) (rs : Rs) : fldTake 115 x rs = ({ x with f7 := strOfNums rs.text.1 }, rs.text.2) := by simp [fldTake]
theorem fldMay_s (x : RQ) : fldMay 115 x = (textOk x.f7) := by simp [fldMay]
theorem fldTake_x (x : RQ) (rs : Rs) : fldTake 120 x rs = ((rsPlan x rs).1, (rsPlan x rs).2) := by simp [fldTake]
theorem fldMay_x (x : RQ) : fldMay 120 x = (rqChk x) := by simp [fldMay]
def tkStep (st : RQ × Rs × Bool) (c : Nat) : RQ × Rs × Bool := ((fldTake c st.1 st.2.1).1, (fldTake c st.1 st.2.1).2, st.2.2 && fldMay c (fldTake c st.1 st.2.1).1)
def tkAll (l : List Nat) (st : RQ × Rs × Bool) : RQ × Rs × Bool := l.foldl tkStep st
theorem tkAll_snoc (l : List Nat) (st : RQ × Rs × Bool) (c : Nat) : tkAll (l ++ [c]) st = tkStep (tkAll l st) c := by simp [tkAll]
theorem take_len_ (r : Rs) (n : Nat) : (r.take n).2.xs.length ≤ r.xs.length := by
  unfold Rs.take
  by_cases h : r.bad = true ∨ r.xs.length < n
  · rw [if_pos h]; exact Nat.le_refl _
  · rw [if_neg h]; simp
theorem uint_len_ (r : Rs) : r.uint.2.xs.length ≤ r.xs.length := by
  have := take_len_ r 8
  unfold Rs.uint
  cases h : r.take 8 with
  | mk a b => rw [h] at this; cases a <;> exact this
theorem text_len_ (r : Rs) : r.text.2.xs.length ≤ r.xs.length := by
  have h4 : r.len4.2.xs.length ≤ r.xs.length := by
    have := take_len_ r 4
    unfold Rs.len4
    cases h : r.take 4 with
    | mk a b => rw [h] at this; cases a <;> exact this
  have := take_len_ r.len4.2 r.len4.1.toNat
  unfold Rs.text
  cases h : r.len4.2.take r.len4.1.toNat with
  | mk a b => rw [h] at this; cases a <;> exact Nat.le_trans this h4
theorem u32_len_ (r : Rs) : r.u32.2.xs.length ≤ r.xs.length := by
  have := uint_len_ r
  unfold Rs.u32
  dsimp only
  split <;> exact this
theorem fldTake_len (c : Nat) (x : RQ) (rs : Rs) : (fldTake c x rs).2.xs.length ≤ rs.xs.length := by
  unfold fldTake
  split; exact u32_len_ rs
  split; exact text_len_ rs
  split; exact u32_len_ rs
  split; exact int_len rs
  split; exact int_len rs
  split; exact int_len rs
  split; exact text_len_ rs
  unfold rsPlan
  dsimp only
  split <;> exact text_len_ rs
theorem tkAll_len (l : List Nat) : ∀ st : RQ × Rs × Bool, (tkAll l st).2.1.xs.length ≤ st.2.1.xs.length := by
  induction l with
  | nil => intro st; exact Nat.le_refl _
  | cons c l ih => intro st; exact Nat.le_trans (ih (tkStep st c)) (fldTake_len c st.1 st.2.1)
theorem tk_next {l : List Nat} {pos c : Nat} {st : RQ × Rs × Bool} {x x' : RQ} {rs rs' : Rs} {ok ok' : Bool} (h1 : tkAll (l.take pos) st = (x, rs, ok)) (h2 : l.take (pos + 1) = l.take pos ++ [c]) (h3 : fldTake c x rs = (x', rs')) (h4 : ok' = (ok && fldMay c x')) : tkAll (l.take (pos + 1)) st = (x', rs', ok') := by
  rw [h2, tkAll_snoc, h1]
  unfold tkStep
  dsimp only
  rw [h3, h4]
/-- What msg.take keeps while it goes. -/
structure TS (L0 g X it : Nat) (B : Nat → Prop) (W : World) (x : RQ) (rs : Rs) : Prop where
  rdr : RdrS W g B rs
  row : ∃ (A : Option Addr) (cp : Nat), W.heap[X]? = some (.cells (rqC x A x.f8.f6.length cp) 27 (0, 0)) ∧ Kd.R k39 39 W L0 (fun k => k ≠ g ∧ k ≠ X ∧ k ≠ it) (.slice A x.f8.f6.length cp) x.f8.f6
theorem TS.below {L0 g X it : Nat} {B : Nat → Prop} {W W' : World} {x : RQ} {rs : Rs} (h : TS L0 g X it B W x rs) (hb : Below W.heap.size W W') : TS L0 g X it B W' x rs := by
  obtain ⟨h1, A, cp, h2, h3⟩ := h
  exact ⟨RdrAt.below h1 hb, A, cp, (hb.block X (Array.getElem?_eq_some_iff.1 h2).1).trans h2, Kd.R_below h3 hb⟩
theorem TS.iter {L0 g X it : Nat} {B : Nat → Prop} {W : World} {x : RQ} {rs : Rs} (h : TS L0 g X it B W x rs) (hB : ∀ k, B k → k ≠ it) (hX : X ≠ it) (s : ByteArray) (p : Nat) : TS L0 g X it B (W.iterAt it s p) x rs := by
  obtain ⟨h1, A, cp, h2, h3⟩ := h
  exact ⟨RdrAt.keep h1 (fun k hk _ => Lib.iterAt_other W it k s p (hB k hk)), A, cp, (Lib.iterAt_other W it X s p hX).trans h2, Kd.R_step h3 (fun k hk _ => Lib.iterAt_other W it k s p hk.2.2)⟩
/-- Behind a field that is not the plan. -/
theorem TS.took {L0 g X it : Nat} {B : Nat → Prop} {W W' : World} {x x' : RQ} {rs' : Rs} {A : Option Addr} {cp : Nat} {e : Ending} (hR : Kd.R k39 39 W L0 (fun k => k ≠ g ∧ k ≠ X ∧ k ≠ it) (.slice A x.f8.f6.length cp) x.f8.f6) (h : TkPost g X B A x.f8.f6.length cp W x' rs' e W') (h8 : x'.f8 = x.f8) : TS L0 g X it B W' x' rs' := by
  obtain ⟨_, h1, h2, h3⟩ := h
  refine ⟨h1, A, cp, by rw [h8]; exact h2, by rw [h8]; exact Kd.R_step hR (fun k hk hl => h3.block k hl hk.1 hk.2.1)⟩
theorem TS.tookx {L0 g X it : Nat} {B : Nat → Prop} {W W' : World} {x' : RQ} {rs' : Rs} {e : Ending} (h : TxPost g X B W x' rs' e W') (hL : L0 ≤ W.heap.size) (hi : it < W.heap.size) : TS L0 g X it B W' x' rs' := by
  obtain ⟨A, cp, _, h1, h2, h3, h4⟩ := h
  exact ⟨h1, A, cp, h2, Kd.R_mono (Kd.R_lower (Kd.R_bound h4) hL) (fun k hk => ⟨hk.1.1, hk.1.2, by have := hk.2.1; omega⟩)⟩
end Go.Proofs.Ytanjkhdagegapaa.Ext
end
