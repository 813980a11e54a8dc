/- msg.take: the walk. -/
import Derived.Test.YtanjkhdagegapaaG4
import Derived.Deep.RegionHeld3
namespace Go.Proofs.Ytanjkhdagegapaa.Ext
open Go.RowKit Go.MapKept Go.Shelf Go.Proofs.YtanjkhdagegapaaW.PrintWords Go.Proofs.YtanjkhdagegapaaW.PrintLast Go.Proofs.YtanjkhdagegapaaW.PrintMore Go.Proofs.YtanjkhdagegapaaW.Hand Go.Proofs.Ytanjkhdagegapaa.PZ
set_option linter.unusedVariables false
set_option linter.unusedSimpArgs false
abbrev rqZ : Array Value := #[.int .u8 0, .int .u32 0, .string { data := #[] }, .int .u32 0, .int .i64 0, .int .i64 0, .int .i64 0, .string { data := #[] }, .int .u32 0, .int .i64 0, .int .i64 0, .int .i64 0, .int .i64 0, .int .i64 0, .slice none 0 0]
abbrev X15 (W : World) (q : Nat) (v0 v1 v2 v3 v4 v5 v6 v7 v8 v9 v10 v11 v12 v13 v14 : Value) : World := (((((((((((((((W.setCell ⟨q, 0, none⟩ v0).setCell ⟨q, 1, none⟩ v1).setCell ⟨q, 2, none⟩ v2).setCell ⟨q, 3, none⟩ v3).setCell ⟨q, 4, none⟩ v4).setCell ⟨q, 5, none⟩ v5).setCell ⟨q, 6, none⟩ v6).setCell ⟨q, 7, none⟩ v7).setCell ⟨q, 8, none⟩ v8).setCell ⟨q, 9, none⟩ v9).setCell ⟨q, 10, none⟩ v10).setCell ⟨q, 11, none⟩ v11).setCell ⟨q, 12, none⟩ v12).setCell ⟨q, 13, none⟩ v13).setCell ⟨q, 14, none⟩ v14)
theorem X15_put {W : World} {q t : Nat} {x0 x1 x2 x3 x4 x5 x6 x7 x8 x9 x10 x11 x12 x13 x14 : Value} (h : W.heap[q]? = some (Obj.cells #[x0, x1, x2, x3, x4, x5, x6, x7, x8, x9, x10, x11, x12, x13, x14] t (0, 0))) (v0 v1 v2 v3 v4 v5 v6 v7 v8 v9 v10 v11 v12 v13 v14 : Value) : (X15 W q v0 v1 v2 v3 v4 v5 v6 v7 v8 v9 v10 v11 v12 v13 v14).heap[q]? = some (Obj.cells #[v0, v1, v2, v3, v4, v5, v6, v7, v8, v9, v10, v11, v12, v13, v14] t (0, 0)) := by
  unfold X15
  have h0 := blk_put h 0 v0 (rfl : _ = #[v0, x1, x2, x3, x4, x5, x6, x7, x8, x9, x10, x11, x12, x13, x14])
  generalize W.setCell ⟨q, 0, none⟩ v0 = W1 at *
  have h1 := blk_put h0 1 v1 (rfl : _ = #[v0, v1, x2, x3, x4, x5, x6, x7, x8, x9, x10, x11, x12, x13, x14])
  generalize W1.setCell ⟨q, 1, none⟩ v1 = W2 at *
  have h2 := blk_put h1 2 v2 (rfl : _ = #[v0, v1, v2, x3, x4, x5, x6, x7, x8, x9, x10, x11, x12, x13, x14])
  generalize W2.setCell ⟨q, 2, none⟩ v2 = W3 at *
  have h3 := blk_put h2 3 v3 (rfl : _ = #[v0, v1, v2, v3, x4, x5, x6, x7, x8, x9, x10, x11, x12, x13, x14])
  generalize W3.setCell ⟨q, 3, none⟩ v3 = W4 at *
  have h4 := blk_put h3 4 v4 (rfl : _ = #[v0, v1, v2, v3, v4, x5, x6, x7, x8, x9, x10, x11, x12, x13, x14])
  generalize W4.setCell ⟨q, 4, none⟩ v4 = W5 at *
  have h5 := blk_put h4 5 v5 (rfl : _ = #[v0, v1, v2, v3, v4, v5, x6, x7, x8, x9, x10, x11, x12, x13, x14])
  generalize W5.setCell ⟨q, 5, none⟩ v5 = W6 at *
  have h6 := blk_put h5 6 v6 (rfl : _ = #[v0, v1, v2, v3, v4, v5, v6, x7, x8, x9, x10, x11, x12, x13, x14])
  generalize W6.setCell ⟨q, 6, none⟩ v6 = W7 at *
  have h7 := blk_put h6 7 v7 (rfl : _ = #[v0, v1, v2, v3, v4, v5, v6, v7, x8, x9, x10, x11, x12, x13, x14])
  generalize W7.setCell ⟨q, 7, none⟩ v7 = W8 at *
  have h8 := blk_put h7 8 v8 (rfl : _ = #[v0, v1, v2, v3, v4, v5, v6, v7, v8, x9, x10, x11, x12, x13, x14])
  generalize W8.setCell ⟨q, 8, none⟩ v8 = W9 at *
  have h9 := blk_put h8 9 v9 (rfl : _ = #[v0, v1, v2, v3, v4, v5, v6, v7, v8, v9, x10, x11, x12, x13, x14])
  generalize W9.setCell ⟨q, 9, none⟩ v9 = W10 at *
  have h10 := blk_put h9 10 v10 (rfl : _ = #[v0, v1, v2, v3, v4, v5, v6, v7, v8, v9, v10, x11, x12, x13, x14])
  generalize W10.setCell ⟨q, 10, none⟩ v10 = W11 at *
  have h11 := blk_put h10 11 v11 (rfl : _ = #[v0, v1, v2, v3, v4, v5, v6, v7, v8, v9, v10, v11, x12, x13, x14])
  generalize W11.setCell ⟨q, 11, none⟩ v11 = W12 at *
  have h12 := blk_put h11 12 v12 (rfl : _ = #[v0, v1, v2, v3, v4, v5, v6, v7, v8, v9, v10, v11, v12, x13, x14])
  generalize W12.setCell ⟨q, 12, none⟩ v12 = W13 at *
  have h13 := blk_put h12 13 v13 (rfl : _ = #[v0, v1, v2, v3, v4, v5, v6, v7, v8, v9, v10, v11, v12, v13, x14])
  generalize W13.setCell ⟨q, 13, none⟩ v13 = W14 at *
  exact blk_put h13 14 v14 rfl
theorem X15_kpt (W : World) (g q : Nat) (v0 v1 v2 v3 v4 v5 v6 v7 v8 v9 v10 v11 v12 v13 v14 : Value) : Kpt g q W (X15 W q v0 v1 v2 v3 v4 v5 v6 v7 v8 v9 v10 v11 v12 v13 v14) := (((((((((((((((Kpt.set W 0 v0).trans (Kpt.set _ 1 v1)).trans (Kpt.set _ 2 v2)).trans (Kpt.set _ 3 v3)).trans (Kpt.set _ 4 v4)).trans (Kpt.set _ 5 v5)).trans (Kpt.set _ 6 v6)).trans (Kpt.set _ 7 v7)).trans (Kpt.set _ 8 v8)).trans (Kpt.set _ 9 v9)).trans (Kpt.set _ 10 v10)).trans (Kpt.set _ 11 v11)).trans (Kpt.set _ 12 v12)).trans (Kpt.set _ 13 v13)).trans (Kpt.set _ 14 v14))
theorem X15_other (W : World) (q : Nat) (v0 v1 v2 v3 v4 v5 v6 v7 v8 v9 v10 v11 v12 v13 v14 : Value) (k : Nat) (hk : k ≠ q) : (X15 W q v0 v1 v2 v3 v4 v5 v6 v7 v8 v9 v10 v11 v12 v13 v14).heap[k]? = W.heap[k]? := by
  unfold X15
  rw [Below.heap_setCell _ _ _ _ (show k ≠ q from hk), Below.heap_setCell _ _ _ _ (show k ≠ q from hk), Below.heap_setCell _ _ _ _ (show k ≠ q from hk), Below.heap_setCell _ _ _ _ (show k ≠ q from hk), Below.heap_setCell _ _ _ _ (show k ≠ q from hk), Below.heap_setCell _ _ _ _ (show k ≠ q from hk), Below.heap_setCell _ _ _ _ (show k ≠ q from hk), Below.heap_setCell _ _ _ _ (show k ≠ q from hk), Below.heap_setCell _ _ _ _ (show k ≠ q from hk), Below.heap_setCell _ _ _ _ (show k ≠ q from hk), Below.heap_setCell _ _ _ _ (show k ≠ q from hk), Below.heap_setCell _ _ _ _ (show k ≠ q from hk), Below.heap_setCell _ _ _ _ (show k ≠ q from hk), Below.heap_setCell _ _ _ _ (show k ≠ q from hk), Below.heap_setCell _ _ _ _ (show k ≠ q from hk)]
theorem X15_cells {W : World} {q X n c : Nat} {x : RQ} {A : Option Addr} (h : W.heap[X]? = some (.cells (rqC x A n c) 27 (0, 0))) (hne : X ≠ q) (v0 v1 v2 v3 v4 v5 v6 v7 v8 v9 v10 v11 v12 v13 v14 : Value) : (X15 W q v0 v1 v2 v3 v4 v5 v6 v7 v8 v9 v10 v11 v12 v13 v14).cell? ⟨X, 0, none⟩ = some (.int .u8 x.f0) ∧ (X15 W q v0 v1 v2 v3 v4 v5 v6 v7 v8 v9 v10 v11 v12 v13 v14).cell? ⟨X, 1, none⟩ = some (.int .u32 x.f1) ∧ (X15 W q v0 v1 v2 v3 v4 v5 v6 v7 v8 v9 v10 v11 v12 v13 v14).cell? ⟨X, 2, none⟩ = some (.string x.f2) ∧ (X15 W q v0 v1 v2 v3 v4 v5 v6 v7 v8 v9 v10 v11 v12 v13 v14).cell? ⟨X, 3, none⟩ = some (.int .u32 x.f3) ∧ (X15 W q v0 v1 v2 v3 v4 v5 v6 v7 v8 v9 v10 v11 v12 v13 v14).cell? ⟨X, 4, none⟩ = some (.int .i64 x.f4) ∧ (X15 W q v0 v1 v2 v3 v4 v5 v6 v7 v8 v9 v10 v11 v12 v13 v14).cell? ⟨X, 5, none⟩ = some (.int .i64 x.f5) ∧ (X15 W q v0 v1 v2 v3 v4 v5 v6 v7 v8 v9 v10 v11 v12 v13 v14).cell? ⟨X, 6, none⟩ = some (.int .i64 x.f6) ∧ (X15 W q v0 v1 v2 v3 v4 v5 v6 v7 v8 v9 v10 v11 v12 v13 v14).cell? ⟨X, 7, none⟩ = some (.string x.f7) ∧ (X15 W q v0 v1 v2 v3 v4 v5 v6 v7 v8 v9 v10 v11 v12 v13 v14).cell? ⟨X, 8, none⟩ = some (.int .u32 x.f8.f0) ∧ (X15 W q v0 v1 v2 v3 v4 v5 v6 v7 v8 v9 v10 v11 v12 v13 v14).cell? ⟨X, 9, none⟩ = some (.int .i64 x.f8.f1) ∧ (X15 W q v0 v1 v2 v3 v4 v5 v6 v7 v8 v9 v10 v11 v12 v13 v14).cell? ⟨X, 10, none⟩ = some (.int .i64 x.f8.f2) ∧ (X15 W q v0 v1 v2 v3 v4 v5 v6 v7 v8 v9 v10 v11 v12 v13 v14).cell? ⟨X, 11, none⟩ = some (.int .i64 x.f8.f3) ∧ (X15 W q v0 v1 v2 v3 v4 v5 v6 v7 v8 v9 v10 v11 v12 v13 v14).cell? ⟨X, 12, none⟩ = some (.int .i64 x.f8.f4) ∧ (X15 W q v0 v1 v2 v3 v4 v5 v6 v7 v8 v9 v10 v11 v12 v13 v14).cell? ⟨X, 13, none⟩ = some (.int .i64 x.f8.f5) ∧ (X15 W q v0 v1 v2 v3 v4 v5 v6 v7 v8 v9 v10 v11 v12 v13 v14).cell? ⟨X, 14, none⟩ = some (.slice A n c) :=
  rq_cells ((X15_other W q v0 v1 v2 v3 v4 v5 v6 v7 v8 v9 v10 v11 v12 v13 v14 X hne).trans h)
/-- A request of a kind, with nothing else. -/
def rq0 (k : Int) : RQ := ⟨k, 0, { data := #[] }, 0, 0, 0, 0, { data := #[] }, ⟨0, 0, 0, 0, 0, 0, []⟩⟩
/-- What msg.take answers. -/
def tkAns (l : List Int) (s : ByteArray) : RQ × Rs × Bool := tkAll (sg s) (rq0 (⟨l, false⟩ : Rs).byte.1, (⟨l, false⟩ : Rs).byte.2, true)
def TakePost (w : World) (l : List Int) (s : ByteArray) (e : Ending) (w' : World) : Prop :=
  ∃ (A : Option Addr) (cp : Nat), e = .returned (.tuple #[.agg (rqC (tkAns l s).1 A (tkAns l s).1.f8.f6.length cp), .bool (((tkAns l s).2.1.done == 0) && (tkAns l s).2.2)]) ∧
    Kd.R k39 39 w' w.heap.size (fun _ => True) (.slice A (tkAns l s).1.f8.f6.length cp) (tkAns l s).1.f8.f6 ∧ Below w.heap.size w w'
set_option maxRecDepth 100000 in
set_option maxHeartbeats 12800000 in
theorem take_calls (A : Option Addr) (c : Nat) (l : List Int) (s : ByteArray) (w : World) (hr : Kd.C (Kd.int .u8) w A l.length l) (hb : ∀ v ∈ l, IsByte v) (hm : l.length ≤ 140737488353000) (hs : ∀ c ∈ sg s, IsSign c) (hl : s.size ≤ 10) :
    Calls Try.prog 24 #[.slice A l.length c, .string s] w fun e w' => TakePost w l s e w' := by
  have HS := Aside0.mk hs
  obtain ⟨q, hq⟩ : ∃ q, w.heap.size = q := ⟨_, rfl⟩
  have KN := Aside0.mk (New_calls A c l _ (Kd.C_alloc hr (.cells rqZ 27)) hb (by omega))
  have HQ0 := Aside0.mk (Blk.new_ (W := w) (o := .cells rqZ 27))
  have HL0 := Aside0.mk (below_alloc (Below.refl _ w) (.cells rqZ 27))
  clear hr hb hs
  go_enter Try.func24, Try.ntmps24
  go_wp2_with fail
  (with_reducible refine KN.out.mono ?_)
  rintro e w1 ⟨g, rfl, hr1, hb1⟩
  have hgB : q + 1 ≤ g ∧ g < w1.heap.size := by have := rdr_g hr1; simp at this; omega
  obtain ⟨B, hBB⟩ : ∃ B : Nat → Prop, (fun k => (w.alloc (.cells rqZ 27)).heap.size ≤ k ∧ k < w1.heap.size) = B := ⟨_, rfl⟩
  rw [hBB] at hr1
  have hBk : Aside0 (∀ k, B k → q + 1 ≤ k ∧ k < w1.heap.size) := ⟨fun k hk => by rw [← hBB] at hk; simp at hk; omega⟩
  have KY := Aside0.mk (Byte_calls g B ⟨l, false⟩ w1 hr1 (by show l.length ≤ _; omega))
  have HQ1 := Aside0.mk (HQ0.out.below hb1)
  have HB1 := Aside0.mk (below_step HL0.out hb1)
  clear hr1 hb1 hBB KN HQ0
  go_wp2_with fail
  (with_reducible refine KY.out.mono ?_)
  rintro e w2 ⟨rfl, hr2, hg2⟩
  have HR2 := Aside0.mk hr2
  have hsz2 : w1.heap.size ≤ w2.heap.size := hg2.size
  have HQ2 := Aside0.mk ((hg2.block q (by omega) (fun e => by injection e with e; omega)).trans (hq ▸ HQ1.out.out))
  have HB2 := Aside0.mk (HB1.out.grown hg2 HB1.out.size (fun k e => by injection e with e; omega))
  obtain ⟨⟨kd, rs0⟩, hkd⟩ : ∃ y, (⟨l, false⟩ : Rs).byte = y := ⟨_, rfl⟩
  have HKD := Aside0.mk hkd
  have hm0 : Aside0 (rs0.xs.length ≤ 140737488353000) := ⟨by
    have := take_len_ ⟨l, false⟩ 1
    have e : rs0 = (⟨l, false⟩ : Rs).byte.2 := by rw [hkd]
    rw [e]
    unfold Rs.byte
    cases h : (⟨l, false⟩ : Rs).take 1 with
    | mk a b => rw [h] at this; cases a <;> exact Nat.le_trans this hm⟩
  rw [hkd] at HR2 ⊢
  dsimp only at HR2 ⊢
  clear hr2 hg2 KY hkd HQ1 HB1
  obtain ⟨X, hX⟩ : ∃ X, w2.heap.size = X := ⟨_, rfl⟩
  have hgX : g < X := by omega
  have hqg : q < g := by omega
  have HT3 : Aside0 (TS q g X (X + 1) B (w2.alloc (.cells (rqC (rq0 kd) none 0 0) 27)) (rq0 kd) rs0) := ⟨⟨RdrAt.alloc HR2.out _, none, 0, heap_new' w2 _ hX.symm, Kd.R_nil _ _ _ _ _⟩⟩
  have HQ3 := Aside0.mk (heap_alloc_lt w2 (.cells (rqC (rq0 kd) none 0 0) 27) (by omega) HQ2.out)
  have HB3 := Aside0.mk (below_alloc HB2.out (.cells (rqC (rq0 kd) none 0 0) 27))
  go_wp2_with fail
  have HI3 := Aside0.mk (heap_new' (w2.alloc (.cells (rqC (rq0 kd) none 0 0) 27)) (.stringIter s 0) (g := X + 1) (by simp; omega))
  have HT4 := Aside0.mk (HT3.out.below (below_alloc (Below.refl _ _) (.stringIter s 0)))
  have HQ4 := Aside0.mk (heap_alloc_lt (w2.alloc (.cells (rqC (rq0 kd) none 0 0) 27)) (.stringIter s 0) (by simp; omega) HQ3.out)
  have HB4 := Aside0.mk (below_alloc HB3.out (.stringIter s 0))
  go_loopw [8] (fun v wr => ∃ (pos : Nat) (x : RQ) (rs : Rs) (ok : Bool), v = .bool ok ∧ Aside0 (tkAll ((sg s).take pos) (rq0 kd, rs0, true) = (x, rs, ok)) ∧ pos ≤ s.size ∧ wr.heap[X + 1]? = some (.stringIter s pos) ∧ Aside0 (TS q g X (X + 1) B wr x rs) ∧ Aside0 (Below w.heap.size w wr) ∧ Aside0 (wr.heap[q]? = some (.cells rqZ 27 (0, 0)))) (fun _ wr => s.size - wr.iterPos (X + 1))
  case atStart => exact ⟨0, rq0 kd, rs0, true, rfl, ⟨rfl⟩, Nat.zero_le _, HI3.out, HT4, HB4, HQ4⟩
  case round =>
    obtain ⟨pos, x, rs, ok, rfl, HA, hpos, hi, HT, HB, HQ⟩ := hrel
    have hrl : rs.xs.length ≤ 140737488353000 := by
      have := tkAll_len ((sg s).take pos) (rq0 kd, rs0, true)
      rw [HA.out] at this
      exact Nat.le_trans this hm0.out
    by_cases hp : pos < s.size
    · obtain ⟨c, hcc⟩ : ∃ c, (sg s)[pos]? = some c := ⟨_, List.getElem?_eq_getElem (by rw [sg_len]; exact hp)⟩
      have hsgn := HS.out c (List.mem_of_getElem? hcc)
      have hc128 : c < 128 := by unfold IsSign at hsgn; omega
      have hnx := fun ty => next_sign wr (X + 1) s pos ty hi c hcc hc128
      obtain ⟨W1, hW1⟩ : ∃ W1, wr.iterAt (X + 1) s (pos + 1) = W1 := ⟨_, rfl⟩
      rw [hW1] at hnx
      have hsz1 : W1.heap.size = wr.heap.size := by rw [← hW1]; exact Lib.iterAt_size _ _ _ _
      have HI1 : Aside0 (W1.heap[X + 1]? = some (.stringIter s (pos + 1))) := ⟨by rw [← hW1]; exact Lib.iterAt_heap wr (X + 1) s pos (pos + 1) hi⟩
      have HT1 : Aside0 (TS q g X (X + 1) B W1 x rs) := ⟨by rw [← hW1]; exact HT.out.iter (fun k hk => by have := hBk.out k hk; omega) (by omega) s (pos + 1)⟩
      have HB1 : Aside0 (Below w.heap.size w W1) := ⟨by rw [← hW1]; exact Lib.below_iterAt HB.out (by omega) s (pos + 1)⟩
      have HQ1 : Aside0 (W1.heap[q]? = some (.cells rqZ 27 (0, 0))) := ⟨by rw [← hW1]; exact (Lib.iterAt_other wr (X + 1) q s (pos + 1) (by omega)).trans HQ.out⟩
      have hil : X + 1 < W1.heap.size := by rw [hsz1]; exact (Array.getElem?_eq_some_iff.1 hi).1
      have HIP := Aside0.mk (iterPos_of hi)
      have HTS := Aside0.mk (take_sg hcc)
      have hfd0 := fld0
      clear hW1 HT HB HQ hi
      have HCC := Aside0.mk hcc
      clear hcc
      unfold IsSign at hsgn
      go_wp2_with fail
      (with_reducible refine (fields_calls _).mono ?_)
      rintro e w3 ⟨m, rfl, hLm, hF, hb3⟩
      have HT3' := Aside0.mk (HT1.out.below hb3)
      have hs3 : W1.heap.size ≤ w3.heap.size := hb3.size
      have HK3 := Aside0.mk (Kpt.of_below (g := g) (X := X) hb3)
      clear hb3
      rcases hsgn with rfl | rfl | rfl | rfl | rfl | rfl | rfl | rfl
      · as_aux_lemma =>
        obtain ⟨fv, hfv, hlk⟩ := look_t hF
        obtain ⟨a, l', rfl, hla, hba, hll, hbl⟩ := hfv
        have HT4' := Aside0.mk (HT3'.out.below (below_alloc (Below.refl _ _) (.cells #[.func (.func 88) #[] #[.pointer (some ⟨a, 0, none⟩)], .func (.func 89) #[] #[.pointer (some ⟨a, 0, none⟩)], .func (.func 90) #[] #[.pointer (some ⟨a, 0, none⟩), .pointer (some ⟨l', 0, none⟩)]] 86)))
        have HK4 := Aside0.mk (HK3.out.trans (Kpt.of_below (below_alloc (Below.refl _ w3) (.cells #[.func (.func 88) #[] #[.pointer (some ⟨a, 0, none⟩)], .func (.func 89) #[] #[.pointer (some ⟨a, 0, none⟩)], .func (.func 90) #[] #[.pointer (some ⟨a, 0, none⟩), .pointer (some ⟨l', 0, none⟩)]] 86))))
        have HF4 := Aside0.mk (heap_new w3 (.cells #[.func (.func 88) #[] #[.pointer (some ⟨a, 0, none⟩)], .func (.func 89) #[] #[.pointer (some ⟨a, 0, none⟩)], .func (.func 90) #[] #[.pointer (some ⟨a, 0, none⟩), .pointer (some ⟨l', 0, none⟩)]] 86))
        have HA4 := Aside0.mk (hba.alloc (.cells #[.func (.func 88) #[] #[.pointer (some ⟨a, 0, none⟩)], .func (.func 89) #[] #[.pointer (some ⟨a, 0, none⟩)], .func (.func 90) #[] #[.pointer (some ⟨a, 0, none⟩), .pointer (some ⟨l', 0, none⟩)]] 86))
        have HL4 := Aside0.mk (hbl.alloc (.cells #[.func (.func 88) #[] #[.pointer (some ⟨a, 0, none⟩)], .func (.func 89) #[] #[.pointer (some ⟨a, 0, none⟩)], .func (.func 90) #[] #[.pointer (some ⟨a, 0, none⟩), .pointer (some ⟨l', 0, none⟩)]] 86))
        obtain ⟨hr5, A5, cp5, hX5, hR5⟩ := HT4'.out
        have HX5 := Aside0.mk hX5
        have HR5 := Aside0.mk hR5
        have HRD := Aside0.mk hr5
        clear hF hX5 hR5 hr5 hba hbl
        have hBX : Aside0 (∀ k, B k → k ≠ X) := ⟨fun k hk => by have := hBk.out k hk; omega⟩
        have hw3 : (w3.alloc (.cells #[.func (.func 88) #[] #[.pointer (some ⟨a, 0, none⟩)], .func (.func 89) #[] #[.pointer (some ⟨a, 0, none⟩)], .func (.func 90) #[] #[.pointer (some ⟨a, 0, none⟩), .pointer (some ⟨l', 0, none⟩)]] 86)).heap.size = w3.heap.size + 1 := by simp
        have HW3 := Aside0.mk hw3
        clear hw3
        go_wp2_with fail
        (with_reducible refine (take_t g X a B A5 x.f8.f6.length cp5 x rs _ HRD.out (Nat.le_trans hrl (by decide)) HX5.out hBX.out HA4.out).mono ?_)
        rintro e w6 hpost
        have he := hpost.1
        subst he
        have HT6 := Aside0.mk (TS.took (L0 := q) (it := X + 1) HR5.out hpost rfl)
        have HK6 := Aside0.mk hpost.2.2.2
        have hs6 : w3.heap.size + 1 ≤ w6.heap.size := by have := HK6.out.size; rw [HW3.out] at this; exact this
        clear hpost
        obtain ⟨x6, hx6⟩ : ∃ y, { x with f1 := rs.u32.1 } = y := ⟨_, rfl⟩
        obtain ⟨rs6, hrs6⟩ : ∃ y, rs.u32.2 = y := ⟨_, rfl⟩
        rw [hx6, hrs6] at HT6
        have HST := Aside0.mk (show fldTake 116 x rs = (x6, rs6) by rw [fldTake_t, hx6, hrs6])
        clear hx6 hrs6
        obtain ⟨hr7, A7, cp7, hX7, hR7⟩ := HT6.out
        have HF7 := (HK6.out.block w3.heap.size (by rw [HW3.out]; omega) (by omega) (by omega)).trans HF4.out
        have cf2 := (cell_of_row w6 _ 2 _ _ _ HF7).trans (rfl : _ = some (.func (.func 90) #[] #[.pointer (some ⟨a, 0, none⟩), .pointer (some ⟨l', 0, none⟩)] : Value))
        obtain ⟨y0, y1, y2, y3, y4, y5, y6, y7, y8, y9, y10, y11, y12, y13, y14⟩ := rq_cells hX7
        have HA7 : Aside0 (Boxed w6 a _ _) := ⟨(HK6.out.block a (by rw [HW3.out]; have := HA4.out.lt; rw [HW3.out] at this; omega) (by omega) (by omega)).trans HA4.out⟩
        have HL7 : Aside0 (Boxed w6 l' _ _) := ⟨(HK6.out.block l' (by rw [HW3.out]; have := HL4.out.lt; rw [HW3.out] at this; omega) (by omega) (by omega)).trans HL4.out⟩
        have HC7 := Aside0.mk (Kd.R_reads' hR7).2
        have HK7 := Aside0.mk (HK4.out.trans HK6.out)
        clear hr7 hX7 hR7 HF7
        cases ok with
        | false =>
          go_wp2_with fail
          go_roundw
          case rel => exact ⟨pos + 1, x6, rs6, false, rfl, ⟨tk_next HA.out HTS.out HST.out (by simp)⟩, by omega, (HK7.out.block (X + 1) hil (by omega) (by omega)).trans HI1.out, HT6, ⟨HK7.out.below HB1.out HB1.out.size (by omega) (by omega)⟩, ⟨(HK7.out.block q (by omega) (by omega) (by omega)).trans HQ1.out⟩⟩
          case measure => rw [iterPos_of ((HK7.out.block (X + 1) hil (by omega) (by omega)).trans HI1.out), HIP.out]; omega
        | true =>
          go_wp2_with fail
          (with_reducible refine (may_t x6 A7 cp7 a l' _ HA7.out HL7.out).mono ?_)
          rintro e w8 ⟨rfl, hb8⟩
          have HK8 := Aside0.mk (HK7.out.trans (Kpt.of_below hb8))
          have HT8 := Aside0.mk (HT6.out.below hb8)
          clear hb8
          go_wp2_with fail
          go_roundw
          case rel => exact ⟨pos + 1, x6, rs6, _, rfl, ⟨tk_next HA.out HTS.out HST.out (by rw [fldMay_t]; simp)⟩, by omega, (HK8.out.block (X + 1) hil (by omega) (by omega)).trans HI1.out, HT8, ⟨HK8.out.below HB1.out HB1.out.size (by omega) (by omega)⟩, ⟨(HK8.out.block q (by omega) (by omega) (by omega)).trans HQ1.out⟩⟩
          case measure => rw [iterPos_of ((HK8.out.block (X + 1) hil (by omega) (by omega)).trans HI1.out), HIP.out]; omega
      · as_aux_lemma =>
        obtain ⟨fv, hfv, hlk⟩ := look_k hF
        obtain ⟨a, l', rfl, hla, hba, hll, hbl⟩ := hfv
        have HT4' := Aside0.mk (HT3'.out.below (below_alloc (Below.refl _ _) (.cells #[.func (.func 91) #[] #[.pointer (some ⟨a, 0, none⟩)], .func (.func 92) #[] #[.pointer (some ⟨a, 0, none⟩)], .func (.func 93) #[] #[.pointer (some ⟨l', 0, none⟩), .pointer (some ⟨a, 0, none⟩)]] 86)))
        have HK4 := Aside0.mk (HK3.out.trans (Kpt.of_below (below_alloc (Below.refl _ w3) (.cells #[.func (.func 91) #[] #[.pointer (some ⟨a, 0, none⟩)], .func (.func 92) #[] #[.pointer (some ⟨a, 0, none⟩)], .func (.func 93) #[] #[.pointer (some ⟨l', 0, none⟩), .pointer (some ⟨a, 0, none⟩)]] 86))))
        have HF4 := Aside0.mk (heap_new w3 (.cells #[.func (.func 91) #[] #[.pointer (some ⟨a, 0, none⟩)], .func (.func 92) #[] #[.pointer (some ⟨a, 0, none⟩)], .func (.func 93) #[] #[.pointer (some ⟨l', 0, none⟩), .pointer (some ⟨a, 0, none⟩)]] 86))
        have HA4 := Aside0.mk (hba.alloc (.cells #[.func (.func 91) #[] #[.pointer (some ⟨a, 0, none⟩)], .func (.func 92) #[] #[.pointer (some ⟨a, 0, none⟩)], .func (.func 93) #[] #[.pointer (some ⟨l', 0, none⟩), .pointer (some ⟨a, 0, none⟩)]] 86))
        have HL4 := Aside0.mk (hbl.alloc (.cells #[.func (.func 91) #[] #[.pointer (some ⟨a, 0, none⟩)], .func (.func 92) #[] #[.pointer (some ⟨a, 0, none⟩)], .func (.func 93) #[] #[.pointer (some ⟨l', 0, none⟩), .pointer (some ⟨a, 0, none⟩)]] 86))
        obtain ⟨hr5, A5, cp5, hX5, hR5⟩ := HT4'.out
        have HX5 := Aside0.mk hX5
        have HR5 := Aside0.mk hR5
        have HRD := Aside0.mk hr5
        clear hF hX5 hR5 hr5 hba hbl
        have hBX : Aside0 (∀ k, B k → k ≠ X) := ⟨fun k hk => by have := hBk.out k hk; omega⟩
        have hw3 : (w3.alloc (.cells #[.func (.func 91) #[] #[.pointer (some ⟨a, 0, none⟩)], .func (.func 92) #[] #[.pointer (some ⟨a, 0, none⟩)], .func (.func 93) #[] #[.pointer (some ⟨l', 0, none⟩), .pointer (some ⟨a, 0, none⟩)]] 86)).heap.size = w3.heap.size + 1 := by simp
        have HW3 := Aside0.mk hw3
        clear hw3
        go_wp2_with fail
        (with_reducible refine (take_k g X a B A5 x.f8.f6.length cp5 x rs _ HRD.out (Nat.le_trans hrl (by decide)) HX5.out hBX.out HA4.out).mono ?_)
        rintro e w6 hpost
        have he := hpost.1
        subst he
        have HT6 := Aside0.mk (TS.took (L0 := q) (it := X + 1) HR5.out hpost rfl)
        have HK6 := Aside0.mk hpost.2.2.2
        have hs6 : w3.heap.size + 1 ≤ w6.heap.size := by have := HK6.out.size; rw [HW3.out] at this; exact this
        clear hpost
        obtain ⟨x6, hx6⟩ : ∃ y, { x with f2 := strOfNums rs.text.1 } = y := ⟨_, rfl⟩
        obtain ⟨rs6, hrs6⟩ : ∃ y, rs.text.2 = y := ⟨_, rfl⟩
        rw [hx6, hrs6] at HT6
        have HST := Aside0.mk (show fldTake 107 x rs = (x6, rs6) by rw [fldTake_k, hx6, hrs6])
        clear hx6 hrs6
        obtain ⟨hr7, A7, cp7, hX7, hR7⟩ := HT6.out
        have HF7 := (HK6.out.block w3.heap.size (by rw [HW3.out]; omega) (by omega) (by omega)).trans HF4.out
        have cf2 := (cell_of_row w6 _ 2 _ _ _ HF7).trans (rfl : _ = some (.func (.func 93) #[] #[.pointer (some ⟨l', 0, none⟩), .pointer (some ⟨a, 0, none⟩)] : Value))
        obtain ⟨y0, y1, y2, y3, y4, y5, y6, y7, y8, y9, y10, y11, y12, y13, y14⟩ := rq_cells hX7
        have HA7 : Aside0 (Boxed w6 a _ _) := ⟨(HK6.out.block a (by rw [HW3.out]; have := HA4.out.lt; rw [HW3.out] at this; omega) (by omega) (by omega)).trans HA4.out⟩
        have HL7 : Aside0 (Boxed w6 l' _ _) := ⟨(HK6.out.block l' (by rw [HW3.out]; have := HL4.out.lt; rw [HW3.out] at this; omega) (by omega) (by omega)).trans HL4.out⟩
        have HC7 := Aside0.mk (Kd.R_reads' hR7).2
        have HK7 := Aside0.mk (HK4.out.trans HK6.out)
        clear hr7 hX7 hR7 HF7
        cases ok with
        | false =>
          go_wp2_with fail
          go_roundw
          case rel => exact ⟨pos + 1, x6, rs6, false, rfl, ⟨tk_next HA.out HTS.out HST.out (by simp)⟩, by omega, (HK7.out.block (X + 1) hil (by omega) (by omega)).trans HI1.out, HT6, ⟨HK7.out.below HB1.out HB1.out.size (by omega) (by omega)⟩, ⟨(HK7.out.block q (by omega) (by omega) (by omega)).trans HQ1.out⟩⟩
          case measure => rw [iterPos_of ((HK7.out.block (X + 1) hil (by omega) (by omega)).trans HI1.out), HIP.out]; omega
        | true =>
          go_wp2_with fail
          (with_reducible refine (may_k x6 A7 cp7 a l' _ HA7.out HL7.out).mono ?_)
          rintro e w8 ⟨rfl, hb8⟩
          have HK8 := Aside0.mk (HK7.out.trans (Kpt.of_below hb8))
          have HT8 := Aside0.mk (HT6.out.below hb8)
          clear hb8
          go_wp2_with fail
          go_roundw
          case rel => exact ⟨pos + 1, x6, rs6, _, rfl, ⟨tk_next HA.out HTS.out HST.out (by rw [fldMay_k]; simp)⟩, by omega, (HK8.out.block (X + 1) hil (by omega) (by omega)).trans HI1.out, HT8, ⟨HK8.out.below HB1.out HB1.out.size (by omega) (by omega)⟩, ⟨(HK8.out.block q (by omega) (by omega) (by omega)).trans HQ1.out⟩⟩
          case measure => rw [iterPos_of ((HK8.out.block (X + 1) hil (by omega) (by omega)).trans HI1.out), HIP.out]; omega
      · as_aux_lemma =>
        obtain ⟨fv, hfv, hlk⟩ := look_i hF
        obtain ⟨a, l', rfl, hla, hba, hll, hbl⟩ := hfv
        have HT4' := Aside0.mk (HT3'.out.below (below_alloc (Below.refl _ _) (.cells #[.func (.func 88) #[] #[.pointer (some ⟨a, 0, none⟩)], .func (.func 89) #[] #[.pointer (some ⟨a, 0, none⟩)], .func (.func 90) #[] #[.pointer (some ⟨a, 0, none⟩), .pointer (some ⟨l', 0, none⟩)]] 86)))
        have HK4 := Aside0.mk (HK3.out.trans (Kpt.of_below (below_alloc (Below.refl _ w3) (.cells #[.func (.func 88) #[] #[.pointer (some ⟨a, 0, none⟩)], .func (.func 89) #[] #[.pointer (some ⟨a, 0, none⟩)], .func (.func 90) #[] #[.pointer (some ⟨a, 0, none⟩), .pointer (some ⟨l', 0, none⟩)]] 86))))
        have HF4 := Aside0.mk (heap_new w3 (.cells #[.func (.func 88) #[] #[.pointer (some ⟨a, 0, none⟩)], .func (.func 89) #[] #[.pointer (some ⟨a, 0, none⟩)], .func (.func 90) #[] #[.pointer (some ⟨a, 0, none⟩), .pointer (some ⟨l', 0, none⟩)]] 86))
        have HA4 := Aside0.mk (hba.alloc (.cells #[.func (.func 88) #[] #[.pointer (some ⟨a, 0, none⟩)], .func (.func 89) #[] #[.pointer (some ⟨a, 0, none⟩)], .func (.func 90) #[] #[.pointer (some ⟨a, 0, none⟩), .pointer (some ⟨l', 0, none⟩)]] 86))
        have HL4 := Aside0.mk (hbl.alloc (.cells #[.func (.func 88) #[] #[.pointer (some ⟨a, 0, none⟩)], .func (.func 89) #[] #[.pointer (some ⟨a, 0, none⟩)], .func (.func 90) #[] #[.pointer (some ⟨a, 0, none⟩), .pointer (some ⟨l', 0, none⟩)]] 86))
        obtain ⟨hr5, A5, cp5, hX5, hR5⟩ := HT4'.out
        have HX5 := Aside0.mk hX5
        have HR5 := Aside0.mk hR5
        have HRD := Aside0.mk hr5
        clear hF hX5 hR5 hr5 hba hbl
        have hBX : Aside0 (∀ k, B k → k ≠ X) := ⟨fun k hk => by have := hBk.out k hk; omega⟩
        have hw3 : (w3.alloc (.cells #[.func (.func 88) #[] #[.pointer (some ⟨a, 0, none⟩)], .func (.func 89) #[] #[.pointer (some ⟨a, 0, none⟩)], .func (.func 90) #[] #[.pointer (some ⟨a, 0, none⟩), .pointer (some ⟨l', 0, none⟩)]] 86)).heap.size = w3.heap.size + 1 := by simp
        have HW3 := Aside0.mk hw3
        clear hw3
        go_wp2_with fail
        (with_reducible refine (take_i g X a B A5 x.f8.f6.length cp5 x rs _ HRD.out (Nat.le_trans hrl (by decide)) HX5.out hBX.out HA4.out).mono ?_)
        rintro e w6 hpost
        have he := hpost.1
        subst he
        have HT6 := Aside0.mk (TS.took (L0 := q) (it := X + 1) HR5.out hpost rfl)
        have HK6 := Aside0.mk hpost.2.2.2
        have hs6 : w3.heap.size + 1 ≤ w6.heap.size := by have := HK6.out.size; rw [HW3.out] at this; exact this
        clear hpost
        obtain ⟨x6, hx6⟩ : ∃ y, { x with f3 := rs.u32.1 } = y := ⟨_, rfl⟩
        obtain ⟨rs6, hrs6⟩ : ∃ y, rs.u32.2 = y := ⟨_, rfl⟩
        rw [hx6, hrs6] at HT6
        have HST := Aside0.mk (show fldTake 105 x rs = (x6, rs6) by rw [fldTake_i, hx6, hrs6])
        clear hx6 hrs6
        obtain ⟨hr7, A7, cp7, hX7, hR7⟩ := HT6.out
        have HF7 := (HK6.out.block w3.heap.size (by rw [HW3.out]; omega) (by omega) (by omega)).trans HF4.out
        have cf2 := (cell_of_row w6 _ 2 _ _ _ HF7).trans (rfl : _ = some (.func (.func 90) #[] #[.pointer (some ⟨a, 0, none⟩), .pointer (some ⟨l', 0, none⟩)] : Value))
        obtain ⟨y0, y1, y2, y3, y4, y5, y6, y7, y8, y9, y10, y11, y12, y13, y14⟩ := rq_cells hX7
        have HA7 : Aside0 (Boxed w6 a _ _) := ⟨(HK6.out.block a (by rw [HW3.out]; have := HA4.out.lt; rw [HW3.out] at this; omega) (by omega) (by omega)).trans HA4.out⟩
        have HL7 : Aside0 (Boxed w6 l' _ _) := ⟨(HK6.out.block l' (by rw [HW3.out]; have := HL4.out.lt; rw [HW3.out] at this; omega) (by omega) (by omega)).trans HL4.out⟩
        have HC7 := Aside0.mk (Kd.R_reads' hR7).2
        have HK7 := Aside0.mk (HK4.out.trans HK6.out)
        clear hr7 hX7 hR7 HF7
        cases ok with
        | false =>
          go_wp2_with fail
          go_roundw
          case rel => exact ⟨pos + 1, x6, rs6, false, rfl, ⟨tk_next HA.out HTS.out HST.out (by simp)⟩, by omega, (HK7.out.block (X + 1) hil (by omega) (by omega)).trans HI1.out, HT6, ⟨HK7.out.below HB1.out HB1.out.size (by omega) (by omega)⟩, ⟨(HK7.out.block q (by omega) (by omega) (by omega)).trans HQ1.out⟩⟩
          case measure => rw [iterPos_of ((HK7.out.block (X + 1) hil (by omega) (by omega)).trans HI1.out), HIP.out]; omega
        | true =>
          go_wp2_with fail
          (with_reducible refine (may_i x6 A7 cp7 a l' _ HA7.out HL7.out).mono ?_)
          rintro e w8 ⟨rfl, hb8⟩
          have HK8 := Aside0.mk (HK7.out.trans (Kpt.of_below hb8))
          have HT8 := Aside0.mk (HT6.out.below hb8)
          clear hb8
          go_wp2_with fail
          go_roundw
          case rel => exact ⟨pos + 1, x6, rs6, _, rfl, ⟨tk_next HA.out HTS.out HST.out (by rw [fldMay_i]; simp)⟩, by omega, (HK8.out.block (X + 1) hil (by omega) (by omega)).trans HI1.out, HT8, ⟨HK8.out.below HB1.out HB1.out.size (by omega) (by omega)⟩, ⟨(HK8.out.block q (by omega) (by omega) (by omega)).trans HQ1.out⟩⟩
          case measure => rw [iterPos_of ((HK8.out.block (X + 1) hil (by omega) (by omega)).trans HI1.out), HIP.out]; omega
      · as_aux_lemma =>
        obtain ⟨fv, hfv, hlk⟩ := look_n hF
        obtain ⟨a, rfl, hla, hba⟩ := hfv
        have HT4' := Aside0.mk (HT3'.out.below (below_alloc (Below.refl _ _) (.cells #[.func (.func 94) #[] #[.pointer (some ⟨a, 0, none⟩)], .func (.func 95) #[] #[.pointer (some ⟨a, 0, none⟩)], .func (.func 96) #[] #[]] 86)))
        have HK4 := Aside0.mk (HK3.out.trans (Kpt.of_below (below_alloc (Below.refl _ w3) (.cells #[.func (.func 94) #[] #[.pointer (some ⟨a, 0, none⟩)], .func (.func 95) #[] #[.pointer (some ⟨a, 0, none⟩)], .func (.func 96) #[] #[]] 86))))
        have HF4 := Aside0.mk (heap_new w3 (.cells #[.func (.func 94) #[] #[.pointer (some ⟨a, 0, none⟩)], .func (.func 95) #[] #[.pointer (some ⟨a, 0, none⟩)], .func (.func 96) #[] #[]] 86))
        have HA4 := Aside0.mk (hba.alloc (.cells #[.func (.func 94) #[] #[.pointer (some ⟨a, 0, none⟩)], .func (.func 95) #[] #[.pointer (some ⟨a, 0, none⟩)], .func (.func 96) #[] #[]] 86))
        obtain ⟨hr5, A5, cp5, hX5, hR5⟩ := HT4'.out
        have HX5 := Aside0.mk hX5
        have HR5 := Aside0.mk hR5
        have HRD := Aside0.mk hr5
        clear hF hX5 hR5 hr5 hba
        have hBX : Aside0 (∀ k, B k → k ≠ X) := ⟨fun k hk => by have := hBk.out k hk; omega⟩
        have hw3 : (w3.alloc (.cells #[.func (.func 94) #[] #[.pointer (some ⟨a, 0, none⟩)], .func (.func 95) #[] #[.pointer (some ⟨a, 0, none⟩)], .func (.func 96) #[] #[]] 86)).heap.size = w3.heap.size + 1 := by simp
        have HW3 := Aside0.mk hw3
        clear hw3
        go_wp2_with fail
        (with_reducible refine (take_n g X a B A5 x.f8.f6.length cp5 x rs _ HRD.out (Nat.le_trans hrl (by decide)) HX5.out hBX.out HA4.out).mono ?_)
        rintro e w6 hpost
        have he := hpost.1
        subst he
        have HT6 := Aside0.mk (TS.took (L0 := q) (it := X + 1) HR5.out hpost rfl)
        have HK6 := Aside0.mk hpost.2.2.2
        have hs6 : w3.heap.size + 1 ≤ w6.heap.size := by have := HK6.out.size; rw [HW3.out] at this; exact this
        clear hpost
        obtain ⟨x6, hx6⟩ : ∃ y, { x with f4 := rs.int.1 } = y := ⟨_, rfl⟩
        obtain ⟨rs6, hrs6⟩ : ∃ y, rs.int.2 = y := ⟨_, rfl⟩
        rw [hx6, hrs6] at HT6
        have HST := Aside0.mk (show fldTake 110 x rs = (x6, rs6) by rw [fldTake_n, hx6, hrs6])
        clear hx6 hrs6
        obtain ⟨hr7, A7, cp7, hX7, hR7⟩ := HT6.out
        have HF7 := (HK6.out.block w3.heap.size (by rw [HW3.out]; omega) (by omega) (by omega)).trans HF4.out
        have cf2 := (cell_of_row w6 _ 2 _ _ _ HF7).trans (rfl : _ = some (.func (.func 96) #[] #[] : Value))
        obtain ⟨y0, y1, y2, y3, y4, y5, y6, y7, y8, y9, y10, y11, y12, y13, y14⟩ := rq_cells hX7
        have HA7 : Aside0 (Boxed w6 a _ _) := ⟨(HK6.out.block a (by rw [HW3.out]; have := HA4.out.lt; rw [HW3.out] at this; omega) (by omega) (by omega)).trans HA4.out⟩
        have HC7 := Aside0.mk (Kd.R_reads' hR7).2
        have HK7 := Aside0.mk (HK4.out.trans HK6.out)
        clear hr7 hX7 hR7 HF7
        cases ok with
        | false =>
          go_wp2_with fail
          go_roundw
          case rel => exact ⟨pos + 1, x6, rs6, false, rfl, ⟨tk_next HA.out HTS.out HST.out (by simp)⟩, by omega, (HK7.out.block (X + 1) hil (by omega) (by omega)).trans HI1.out, HT6, ⟨HK7.out.below HB1.out HB1.out.size (by omega) (by omega)⟩, ⟨(HK7.out.block q (by omega) (by omega) (by omega)).trans HQ1.out⟩⟩
          case measure => rw [iterPos_of ((HK7.out.block (X + 1) hil (by omega) (by omega)).trans HI1.out), HIP.out]; omega
        | true =>
          go_wp2_with fail
          (with_reducible refine (may_n x6 A7 cp7 _).mono ?_)
          rintro e w8 ⟨rfl, hb8⟩
          have HK8 := Aside0.mk (HK7.out.trans (Kpt.of_below hb8))
          have HT8 := Aside0.mk (HT6.out.below hb8)
          clear hb8
          go_wp2_with fail
          go_roundw
          case rel => exact ⟨pos + 1, x6, rs6, _, rfl, ⟨tk_next HA.out HTS.out HST.out (by rw [fldMay_n]; simp)⟩, by omega, (HK8.out.block (X + 1) hil (by omega) (by omega)).trans HI1.out, HT8, ⟨HK8.out.below HB1.out HB1.out.size (by omega) (by omega)⟩, ⟨(HK8.out.block q (by omega) (by omega) (by omega)).trans HQ1.out⟩⟩
          case measure => rw [iterPos_of ((HK8.out.block (X + 1) hil (by omega) (by omega)).trans HI1.out), HIP.out]; omega
      · as_aux_lemma =>
        obtain ⟨fv, hfv, hlk⟩ := look_m hF
        obtain ⟨a, rfl, hla, hba⟩ := hfv
        have HT4' := Aside0.mk (HT3'.out.below (below_alloc (Below.refl _ _) (.cells #[.func (.func 94) #[] #[.pointer (some ⟨a, 0, none⟩)], .func (.func 95) #[] #[.pointer (some ⟨a, 0, none⟩)], .func (.func 96) #[] #[]] 86)))
        have HK4 := Aside0.mk (HK3.out.trans (Kpt.of_below (below_alloc (Below.refl _ w3) (.cells #[.func (.func 94) #[] #[.pointer (some ⟨a, 0, none⟩)], .func (.func 95) #[] #[.pointer (some ⟨a, 0, none⟩)], .func (.func 96) #[] #[]] 86))))
        have HF4 := Aside0.mk (heap_new w3 (.cells #[.func (.func 94) #[] #[.pointer (some ⟨a, 0, none⟩)], .func (.func 95) #[] #[.pointer (some ⟨a, 0, none⟩)], .func (.func 96) #[] #[]] 86))
        have HA4 := Aside0.mk (hba.alloc (.cells #[.func (.func 94) #[] #[.pointer (some ⟨a, 0, none⟩)], .func (.func 95) #[] #[.pointer (some ⟨a, 0, none⟩)], .func (.func 96) #[] #[]] 86))
        obtain ⟨hr5, A5, cp5, hX5, hR5⟩ := HT4'.out
        have HX5 := Aside0.mk hX5
        have HR5 := Aside0.mk hR5
        have HRD := Aside0.mk hr5
        clear hF hX5 hR5 hr5 hba
        have hBX : Aside0 (∀ k, B k → k ≠ X) := ⟨fun k hk => by have := hBk.out k hk; omega⟩
        have hw3 : (w3.alloc (.cells #[.func (.func 94) #[] #[.pointer (some ⟨a, 0, none⟩)], .func (.func 95) #[] #[.pointer (some ⟨a, 0, none⟩)], .func (.func 96) #[] #[]] 86)).heap.size = w3.heap.size + 1 := by simp
        have HW3 := Aside0.mk hw3
        clear hw3
        go_wp2_with fail
        (with_reducible refine (take_m g X a B A5 x.f8.f6.length cp5 x rs _ HRD.out (Nat.le_trans hrl (by decide)) HX5.out hBX.out HA4.out).mono ?_)
        rintro e w6 hpost
        have he := hpost.1
        subst he
        have HT6 := Aside0.mk (TS.took (L0 := q) (it := X + 1) HR5.out hpost rfl)
        have HK6 := Aside0.mk hpost.2.2.2
        have hs6 : w3.heap.size + 1 ≤ w6.heap.size := by have := HK6.out.size; rw [HW3.out] at this; exact this
        clear hpost
        obtain ⟨x6, hx6⟩ : ∃ y, { x with f5 := rs.int.1 } = y := ⟨_, rfl⟩
        obtain ⟨rs6, hrs6⟩ : ∃ y, rs.int.2 = y := ⟨_, rfl⟩
        rw [hx6, hrs6] at HT6
        have HST := Aside0.mk (show fldTake 109 x rs = (x6, rs6) by rw [fldTake_m, hx6, hrs6])
        clear hx6 hrs6
        obtain ⟨hr7, A7, cp7, hX7, hR7⟩ := HT6.out
        have HF7 := (HK6.out.block w3.heap.size (by rw [HW3.out]; omega) (by omega) (by omega)).trans HF4.out
        have cf2 := (cell_of_row w6 _ 2 _ _ _ HF7).trans (rfl : _ = some (.func (.func 96) #[] #[] : Value))
        obtain ⟨y0, y1, y2, y3, y4, y5, y6, y7, y8, y9, y10, y11, y12, y13, y14⟩ := rq_cells hX7
        have HA7 : Aside0 (Boxed w6 a _ _) := ⟨(HK6.out.block a (by rw [HW3.out]; have := HA4.out.lt; rw [HW3.out] at this; omega) (by omega) (by omega)).trans HA4.out⟩
        have HC7 := Aside0.mk (Kd.R_reads' hR7).2
        have HK7 := Aside0.mk (HK4.out.trans HK6.out)
        clear hr7 hX7 hR7 HF7
        cases ok with
        | false =>
          go_wp2_with fail
          go_roundw
          case rel => exact ⟨pos + 1, x6, rs6, false, rfl, ⟨tk_next HA.out HTS.out HST.out (by simp)⟩, by omega, (HK7.out.block (X + 1) hil (by omega) (by omega)).trans HI1.out, HT6, ⟨HK7.out.below HB1.out HB1.out.size (by omega) (by omega)⟩, ⟨(HK7.out.block q (by omega) (by omega) (by omega)).trans HQ1.out⟩⟩
          case measure => rw [iterPos_of ((HK7.out.block (X + 1) hil (by omega) (by omega)).trans HI1.out), HIP.out]; omega
        | true =>
          go_wp2_with fail
          (with_reducible refine (may_n x6 A7 cp7 _).mono ?_)
          rintro e w8 ⟨rfl, hb8⟩
          have HK8 := Aside0.mk (HK7.out.trans (Kpt.of_below hb8))
          have HT8 := Aside0.mk (HT6.out.below hb8)
          clear hb8
          go_wp2_with fail
          go_roundw
          case rel => exact ⟨pos + 1, x6, rs6, _, rfl, ⟨tk_next HA.out HTS.out HST.out (by rw [fldMay_m]; simp)⟩, by omega, (HK8.out.block (X + 1) hil (by omega) (by omega)).trans HI1.out, HT8, ⟨HK8.out.below HB1.out HB1.out.size (by omega) (by omega)⟩, ⟨(HK8.out.block q (by omega) (by omega) (by omega)).trans HQ1.out⟩⟩
          case measure => rw [iterPos_of ((HK8.out.block (X + 1) hil (by omega) (by omega)).trans HI1.out), HIP.out]; omega
      · as_aux_lemma =>
        obtain ⟨fv, hfv, hlk⟩ := look_p hF
        obtain ⟨a, rfl, hla, hba⟩ := hfv
        have HT4' := Aside0.mk (HT3'.out.below (below_alloc (Below.refl _ _) (.cells #[.func (.func 94) #[] #[.pointer (some ⟨a, 0, none⟩)], .func (.func 95) #[] #[.pointer (some ⟨a, 0, none⟩)], .func (.func 96) #[] #[]] 86)))
        have HK4 := Aside0.mk (HK3.out.trans (Kpt.of_below (below_alloc (Below.refl _ w3) (.cells #[.func (.func 94) #[] #[.pointer (some ⟨a, 0, none⟩)], .func (.func 95) #[] #[.pointer (some ⟨a, 0, none⟩)], .func (.func 96) #[] #[]] 86))))
        have HF4 := Aside0.mk (heap_new w3 (.cells #[.func (.func 94) #[] #[.pointer (some ⟨a, 0, none⟩)], .func (.func 95) #[] #[.pointer (some ⟨a, 0, none⟩)], .func (.func 96) #[] #[]] 86))
        have HA4 := Aside0.mk (hba.alloc (.cells #[.func (.func 94) #[] #[.pointer (some ⟨a, 0, none⟩)], .func (.func 95) #[] #[.pointer (some ⟨a, 0, none⟩)], .func (.func 96) #[] #[]] 86))
        obtain ⟨hr5, A5, cp5, hX5, hR5⟩ := HT4'.out
        have HX5 := Aside0.mk hX5
        have HR5 := Aside0.mk hR5
        have HRD := Aside0.mk hr5
        clear hF hX5 hR5 hr5 hba
        have hBX : Aside0 (∀ k, B k → k ≠ X) := ⟨fun k hk => by have := hBk.out k hk; omega⟩
        have hw3 : (w3.alloc (.cells #[.func (.func 94) #[] #[.pointer (some ⟨a, 0, none⟩)], .func (.func 95) #[] #[.pointer (some ⟨a, 0, none⟩)], .func (.func 96) #[] #[]] 86)).heap.size = w3.heap.size + 1 := by simp
        have HW3 := Aside0.mk hw3
        clear hw3
        go_wp2_with fail
        (with_reducible refine (take_p g X a B A5 x.f8.f6.length cp5 x rs _ HRD.out (Nat.le_trans hrl (by decide)) HX5.out hBX.out HA4.out).mono ?_)
        rintro e w6 hpost
        have he := hpost.1
        subst he
        have HT6 := Aside0.mk (TS.took (L0 := q) (it := X + 1) HR5.out hpost rfl)
        have HK6 := Aside0.mk hpost.2.2.2
        have hs6 : w3.heap.size + 1 ≤ w6.heap.size := by have := HK6.out.size; rw [HW3.out] at this; exact this
        clear hpost
        obtain ⟨x6, hx6⟩ : ∃ y, { x with f6 := rs.int.1 } = y := ⟨_, rfl⟩
        obtain ⟨rs6, hrs6⟩ : ∃ y, rs.int.2 = y := ⟨_, rfl⟩
        rw [hx6, hrs6] at HT6
        have HST := Aside0.mk (show fldTake 112 x rs = (x6, rs6) by rw [fldTake_p, hx6, hrs6])
        clear hx6 hrs6
        obtain ⟨hr7, A7, cp7, hX7, hR7⟩ := HT6.out
        have HF7 := (HK6.out.block w3.heap.size (by rw [HW3.out]; omega) (by omega) (by omega)).trans HF4.out
        have cf2 := (cell_of_row w6 _ 2 _ _ _ HF7).trans (rfl : _ = some (.func (.func 96) #[] #[] : Value))
        obtain ⟨y0, y1, y2, y3, y4, y5, y6, y7, y8, y9, y10, y11, y12, y13, y14⟩ := rq_cells hX7
        have HA7 : Aside0 (Boxed w6 a _ _) := ⟨(HK6.out.block a (by rw [HW3.out]; have := HA4.out.lt; rw [HW3.out] at this; omega) (by omega) (by omega)).trans HA4.out⟩
        have HC7 := Aside0.mk (Kd.R_reads' hR7).2
        have HK7 := Aside0.mk (HK4.out.trans HK6.out)
        clear hr7 hX7 hR7 HF7
        cases ok with
        | false =>
          go_wp2_with fail
          go_roundw
          case rel => exact ⟨pos + 1, x6, rs6, false, rfl, ⟨tk_next HA.out HTS.out HST.out (by simp)⟩, by omega, (HK7.out.block (X + 1) hil (by omega) (by omega)).trans HI1.out, HT6, ⟨HK7.out.below HB1.out HB1.out.size (by omega) (by omega)⟩, ⟨(HK7.out.block q (by omega) (by omega) (by omega)).trans HQ1.out⟩⟩
          case measure => rw [iterPos_of ((HK7.out.block (X + 1) hil (by omega) (by omega)).trans HI1.out), HIP.out]; omega
        | true =>
          go_wp2_with fail
          (with_reducible refine (may_n x6 A7 cp7 _).mono ?_)
          rintro e w8 ⟨rfl, hb8⟩
          have HK8 := Aside0.mk (HK7.out.trans (Kpt.of_below hb8))
          have HT8 := Aside0.mk (HT6.out.below hb8)
          clear hb8
          go_wp2_with fail
          go_roundw
          case rel => exact ⟨pos + 1, x6, rs6, _, rfl, ⟨tk_next HA.out HTS.out HST.out (by rw [fldMay_p]; simp)⟩, by omega, (HK8.out.block (X + 1) hil (by omega) (by omega)).trans HI1.out, HT8, ⟨HK8.out.below HB1.out HB1.out.size (by omega) (by omega)⟩, ⟨(HK8.out.block q (by omega) (by omega) (by omega)).trans HQ1.out⟩⟩
          case measure => rw [iterPos_of ((HK8.out.block (X + 1) hil (by omega) (by omega)).trans HI1.out), HIP.out]; omega
      · as_aux_lemma =>
        obtain ⟨fv, hfv, hlk⟩ := look_s hF
        obtain ⟨a, l', rfl, hla, hba, hll, hbl⟩ := hfv
        have HT4' := Aside0.mk (HT3'.out.below (below_alloc (Below.refl _ _) (.cells #[.func (.func 91) #[] #[.pointer (some ⟨a, 0, none⟩)], .func (.func 92) #[] #[.pointer (some ⟨a, 0, none⟩)], .func (.func 93) #[] #[.pointer (some ⟨l', 0, none⟩), .pointer (some ⟨a, 0, none⟩)]] 86)))
        have HK4 := Aside0.mk (HK3.out.trans (Kpt.of_below (below_alloc (Below.refl _ w3) (.cells #[.func (.func 91) #[] #[.pointer (some ⟨a, 0, none⟩)], .func (.func 92) #[] #[.pointer (some ⟨a, 0, none⟩)], .func (.func 93) #[] #[.pointer (some ⟨l', 0, none⟩), .pointer (some ⟨a, 0, none⟩)]] 86))))
        have HF4 := Aside0.mk (heap_new w3 (.cells #[.func (.func 91) #[] #[.pointer (some ⟨a, 0, none⟩)], .func (.func 92) #[] #[.pointer (some ⟨a, 0, none⟩)], .func (.func 93) #[] #[.pointer (some ⟨l', 0, none⟩), .pointer (some ⟨a, 0, none⟩)]] 86))
        have HA4 := Aside0.mk (hba.alloc (.cells #[.func (.func 91) #[] #[.pointer (some ⟨a, 0, none⟩)], .func (.func 92) #[] #[.pointer (some ⟨a, 0, none⟩)], .func (.func 93) #[] #[.pointer (some ⟨l', 0, none⟩), .pointer (some ⟨a, 0, none⟩)]] 86))
        have HL4 := Aside0.mk (hbl.alloc (.cells #[.func (.func 91) #[] #[.pointer (some ⟨a, 0, none⟩)], .func (.func 92) #[] #[.pointer (some ⟨a, 0, none⟩)], .func (.func 93) #[] #[.pointer (some ⟨l', 0, none⟩), .pointer (some ⟨a, 0, none⟩)]] 86))
        obtain ⟨hr5, A5, cp5, hX5, hR5⟩ := HT4'.out
        have HX5 := Aside0.mk hX5
        have HR5 := Aside0.mk hR5
        have HRD := Aside0.mk hr5
        clear hF hX5 hR5 hr5 hba hbl
        have hBX : Aside0 (∀ k, B k → k ≠ X) := ⟨fun k hk => by have := hBk.out k hk; omega⟩
        have hw3 : (w3.alloc (.cells #[.func (.func 91) #[] #[.pointer (some ⟨a, 0, none⟩)], .func (.func 92) #[] #[.pointer (some ⟨a, 0, none⟩)], .func (.func 93) #[] #[.pointer (some ⟨l', 0, none⟩), .pointer (some ⟨a, 0, none⟩)]] 86)).heap.size = w3.heap.size + 1 := by simp
        have HW3 := Aside0.mk hw3
        clear hw3
        go_wp2_with fail
        (with_reducible refine (take_s g X a B A5 x.f8.f6.length cp5 x rs _ HRD.out (Nat.le_trans hrl (by decide)) HX5.out hBX.out HA4.out).mono ?_)
        rintro e w6 hpost
        have he := hpost.1
        subst he
        have HT6 := Aside0.mk (TS.took (L0 := q) (it := X + 1) HR5.out hpost rfl)
        have HK6 := Aside0.mk hpost.2.2.2
        have hs6 : w3.heap.size + 1 ≤ w6.heap.size := by have := HK6.out.size; rw [HW3.out] at this; exact this
        clear hpost
        obtain ⟨x6, hx6⟩ : ∃ y, { x with f7 := strOfNums rs.text.1 } = y := ⟨_, rfl⟩
        obtain ⟨rs6, hrs6⟩ : ∃ y, rs.text.2 = y := ⟨_, rfl⟩
        rw [hx6, hrs6] at HT6
        have HST := Aside0.mk (show fldTake 115 x rs = (x6, rs6) by rw [fldTake_s, hx6, hrs6])
        clear hx6 hrs6
        obtain ⟨hr7, A7, cp7, hX7, hR7⟩ := HT6.out
        have HF7 := (HK6.out.block w3.heap.size (by rw [HW3.out]; omega) (by omega) (by omega)).trans HF4.out
        have cf2 := (cell_of_row w6 _ 2 _ _ _ HF7).trans (rfl : _ = some (.func (.func 93) #[] #[.pointer (some ⟨l', 0, none⟩), .pointer (some ⟨a, 0, none⟩)] : Value))
        obtain ⟨y0, y1, y2, y3, y4, y5, y6, y7, y8, y9, y10, y11, y12, y13, y14⟩ := rq_cells hX7
        have HA7 : Aside0 (Boxed w6 a _ _) := ⟨(HK6.out.block a (by rw [HW3.out]; have := HA4.out.lt; rw [HW3.out] at this; omega) (by omega) (by omega)).trans HA4.out⟩
        have HL7 : Aside0 (Boxed w6 l' _ _) := ⟨(HK6.out.block l' (by rw [HW3.out]; have := HL4.out.lt; rw [HW3.out] at this; omega) (by omega) (by omega)).trans HL4.out⟩
        have HC7 := Aside0.mk (Kd.R_reads' hR7).2
        have HK7 := Aside0.mk (HK4.out.trans HK6.out)
        clear hr7 hX7 hR7 HF7
        cases ok with
        | false =>
          go_wp2_with fail
          go_roundw
          case rel => exact ⟨pos + 1, x6, rs6, false, rfl, ⟨tk_next HA.out HTS.out HST.out (by simp)⟩, by omega, (HK7.out.block (X + 1) hil (by omega) (by omega)).trans HI1.out, HT6, ⟨HK7.out.below HB1.out HB1.out.size (by omega) (by omega)⟩, ⟨(HK7.out.block q (by omega) (by omega) (by omega)).trans HQ1.out⟩⟩
          case measure => rw [iterPos_of ((HK7.out.block (X + 1) hil (by omega) (by omega)).trans HI1.out), HIP.out]; omega
        | true =>
          go_wp2_with fail
          (with_reducible refine (may_s x6 A7 cp7 a l' _ HA7.out HL7.out).mono ?_)
          rintro e w8 ⟨rfl, hb8⟩
          have HK8 := Aside0.mk (HK7.out.trans (Kpt.of_below hb8))
          have HT8 := Aside0.mk (HT6.out.below hb8)
          clear hb8
          go_wp2_with fail
          go_roundw
          case rel => exact ⟨pos + 1, x6, rs6, _, rfl, ⟨tk_next HA.out HTS.out HST.out (by rw [fldMay_s]; simp)⟩, by omega, (HK8.out.block (X + 1) hil (by omega) (by omega)).trans HI1.out, HT8, ⟨HK8.out.below HB1.out HB1.out.size (by omega) (by omega)⟩, ⟨(HK8.out.block q (by omega) (by omega) (by omega)).trans HQ1.out⟩⟩
          case measure => rw [iterPos_of ((HK8.out.block (X + 1) hil (by omega) (by omega)).trans HI1.out), HIP.out]; omega
      · as_aux_lemma =>
        obtain ⟨fv, hfv, hlk⟩ := look_x hF
        obtain rfl : fv = .agg #[.func (.func 76) #[] #[], .func (.func 77) #[] #[], .func (.func 78) #[] #[]] := hfv
        have HT4' := Aside0.mk (HT3'.out.below (below_alloc (Below.refl _ _) (.cells #[.func (.func 76) #[] #[], .func (.func 77) #[] #[], .func (.func 78) #[] #[]] 86)))
        have HK4 := Aside0.mk (HK3.out.trans (Kpt.of_below (below_alloc (Below.refl _ w3) (.cells #[.func (.func 76) #[] #[], .func (.func 77) #[] #[], .func (.func 78) #[] #[]] 86))))
        have HF4 := Aside0.mk (heap_new w3 (.cells #[.func (.func 76) #[] #[], .func (.func 77) #[] #[], .func (.func 78) #[] #[]] 86))
        obtain ⟨hr5, A5, cp5, hX5, hR5⟩ := HT4'.out
        have HX5 := Aside0.mk hX5
        have HR5 := Aside0.mk hR5
        have HRD := Aside0.mk hr5
        clear hF hX5 hR5 hr5
        have hBX : Aside0 (∀ k, B k → k ≠ X) := ⟨fun k hk => by have := hBk.out k hk; omega⟩
        have hw3 : (w3.alloc (.cells #[.func (.func 76) #[] #[], .func (.func 77) #[] #[], .func (.func 78) #[] #[]] 86)).heap.size = w3.heap.size + 1 := by simp
        have HW3 := Aside0.mk hw3
        clear hw3
        go_wp2_with fail
        (with_reducible refine (take_x g X B A5 x.f8.f6.length cp5 x rs _ HRD.out hrl HX5.out hBX.out).mono ?_)
        rintro e w6 hpost
        have he : e = .returned (.tuple #[]) := by obtain ⟨_, _, h, _⟩ := hpost; exact h
        subst he
        have HT6 := Aside0.mk (TS.tookx (L0 := q) (it := X + 1) hpost (by rw [HW3.out]; omega) (by rw [HW3.out]; omega))
        have HK6 := Aside0.mk (show Kpt g X _ w6 by obtain ⟨_, _, _, _, _, h, _⟩ := hpost; exact h)
        have hs6 : w3.heap.size + 1 ≤ w6.heap.size := by have := HK6.out.size; rw [HW3.out] at this; exact this
        clear hpost
        obtain ⟨x6, hx6⟩ : ∃ y, (rsPlan x rs).1 = y := ⟨_, rfl⟩
        obtain ⟨rs6, hrs6⟩ : ∃ y, (rsPlan x rs).2 = y := ⟨_, rfl⟩
        rw [hx6, hrs6] at HT6
        have HST := Aside0.mk (show fldTake 120 x rs = (x6, rs6) by rw [fldTake_x, hx6, hrs6])
        clear hx6 hrs6
        obtain ⟨hr7, A7, cp7, hX7, hR7⟩ := HT6.out
        have HF7 := (HK6.out.block w3.heap.size (by rw [HW3.out]; omega) (by omega) (by omega)).trans HF4.out
        have cf2 := (cell_of_row w6 _ 2 _ _ _ HF7).trans (rfl : _ = some (.func (.func 78) #[] #[] : Value))
        obtain ⟨y0, y1, y2, y3, y4, y5, y6, y7, y8, y9, y10, y11, y12, y13, y14⟩ := rq_cells hX7
        have HC7 := Aside0.mk (Kd.R_reads' hR7).2
        have HK7 := Aside0.mk (HK4.out.trans HK6.out)
        clear hr7 hX7 hR7 HF7
        cases ok with
        | false =>
          go_wp2_with fail
          go_roundw
          case rel => exact ⟨pos + 1, x6, rs6, false, rfl, ⟨tk_next HA.out HTS.out HST.out (by simp)⟩, by omega, (HK7.out.block (X + 1) hil (by omega) (by omega)).trans HI1.out, HT6, ⟨HK7.out.below HB1.out HB1.out.size (by omega) (by omega)⟩, ⟨(HK7.out.block q (by omega) (by omega) (by omega)).trans HQ1.out⟩⟩
          case measure => rw [iterPos_of ((HK7.out.block (X + 1) hil (by omega) (by omega)).trans HI1.out), HIP.out]; omega
        | true =>
          go_wp2_with fail
          (with_reducible refine (may_x x6 A7 cp7 _ HC7.out.2 HC7.out.1).mono ?_)
          rintro e w8 ⟨rfl, hb8⟩
          have HK8 := Aside0.mk (HK7.out.trans (Kpt.of_below hb8))
          have HT8 := Aside0.mk (HT6.out.below hb8)
          clear hb8
          go_wp2_with fail
          go_roundw
          case rel => exact ⟨pos + 1, x6, rs6, _, rfl, ⟨tk_next HA.out HTS.out HST.out (by rw [fldMay_x]; simp)⟩, by omega, (HK8.out.block (X + 1) hil (by omega) (by omega)).trans HI1.out, HT8, ⟨HK8.out.below HB1.out HB1.out.size (by omega) (by omega)⟩, ⟨(HK8.out.block q (by omega) (by omega) (by omega)).trans HQ1.out⟩⟩
          case measure => rw [iterPos_of ((HK8.out.block (X + 1) hil (by omega) (by omega)).trans HI1.out), HIP.out]; omega
    · have hnx := fun ty => Lib.run_next_end_at (P := Try.prog) wr (X + 1) s pos ty hi (by omega)
      have hpe : pos = s.size := by omega
      subst hpe
      have HA2 := Aside0.mk HA.out
      rw [List.take_of_length_le (by rw [sg_len]; exact Nat.le_refl _)] at HA2
      have HANS := Aside0.mk (show tkAns l s = (x, rs, ok) by unfold tkAns; rw [HKD.out]; exact HA2.out)
      obtain ⟨hr7, A7, cp7, hX7, hR7⟩ := HT.out
      have kdn := fun n => Done_calls g B rs (wr.drewN n) (RdrAt.drewN hr7 n) (Nat.le_trans hrl (by decide))
      have KD := Aside0.mk kdn
      have HR7 := Aside0.mk hR7
      obtain ⟨y0, y1, y2, y3, y4, y5, y6, y7, y8, y9, y10, y11, y12, y13, y14⟩ := rq_cells hX7
      have HXB := Aside0.mk hX7
      have hXq : X ≠ q := by omega
      clear HA HA2 hX7 hR7 kdn hr7
      have fz := fun j => blk_frozen HQ.out j
      have f0 := fz 0
      have f1 := fz 1
      have f2 := fz 2
      have f3 := fz 3
      have f4 := fz 4
      have f5 := fz 5
      have f6 := fz 6
      have f7 := fz 7
      have f8 := fz 8
      have f9 := fz 9
      have f10 := fz 10
      have f11 := fz 11
      have f12 := fz 12
      have f13 := fz 13
      have f14 := fz 14
      have z0 := (cell_of_row wr q 0 _ _ _ HQ.out).trans (rfl : _ = some (.int .u8 0 : Value))
      have z1 := (cell_of_row wr q 1 _ _ _ HQ.out).trans (rfl : _ = some (.int .u32 0 : Value))
      have z2 := (cell_of_row wr q 2 _ _ _ HQ.out).trans (rfl : _ = some (.string { data := #[] } : Value))
      have z3 := (cell_of_row wr q 3 _ _ _ HQ.out).trans (rfl : _ = some (.int .u32 0 : Value))
      have z4 := (cell_of_row wr q 4 _ _ _ HQ.out).trans (rfl : _ = some (.int .i64 0 : Value))
      have z5 := (cell_of_row wr q 5 _ _ _ HQ.out).trans (rfl : _ = some (.int .i64 0 : Value))
      have z6 := (cell_of_row wr q 6 _ _ _ HQ.out).trans (rfl : _ = some (.int .i64 0 : Value))
      have z7 := (cell_of_row wr q 7 _ _ _ HQ.out).trans (rfl : _ = some (.string { data := #[] } : Value))
      have z8 := (cell_of_row wr q 8 _ _ _ HQ.out).trans (rfl : _ = some (.int .u32 0 : Value))
      have z9 := (cell_of_row wr q 9 _ _ _ HQ.out).trans (rfl : _ = some (.int .i64 0 : Value))
      have z10 := (cell_of_row wr q 10 _ _ _ HQ.out).trans (rfl : _ = some (.int .i64 0 : Value))
      have z11 := (cell_of_row wr q 11 _ _ _ HQ.out).trans (rfl : _ = some (.int .i64 0 : Value))
      have z12 := (cell_of_row wr q 12 _ _ _ HQ.out).trans (rfl : _ = some (.int .i64 0 : Value))
      have z13 := (cell_of_row wr q 13 _ _ _ HQ.out).trans (rfl : _ = some (.int .i64 0 : Value))
      have z14 := (cell_of_row wr q 14 _ _ _ HQ.out).trans (rfl : _ = some (.slice none 0 0 : Value))
      clear fz
      go_wp2_with fail
      have KD1 : Aside0 (∀ W : World, (∃ n, W = wr.drewN n) → Calls Try.prog 31 #[.pointer (some ⟨g, 0, none⟩)] W fun e w' => e = .returned (.int .i64 rs.done) ∧ W = w') := ⟨fun W ⟨n, h⟩ => h ▸ KD.out n⟩
      have KD2 : Aside0 (Calls Try.prog 31 #[.pointer (some ⟨g, 0, none⟩)] wr.drew fun e w' => e = .returned (.int .i64 rs.done) ∧ wr.drew = w') := ⟨KD.out 1⟩
      clear KD
      have HFIN : Aside0 (∀ W9 : World, W9.heap[q]? = some (.cells (rqC x A7 x.f8.f6.length cp7) 27 (0, 0)) → Kpt q q wr.drew W9 → ∀ b : Bool, b = ((rs.done == 0) && ok) → TakePost w l s (.returned (.tuple #[.agg (rqC x A7 x.f8.f6.length cp7), .bool b])) W9) := ⟨fun W9 h1 h2 b hb => by
        refine ⟨A7, cp7, by rw [HANS.out, hb], ?_, ?_⟩
        · rw [HANS.out]
          subst hq
          exact Kd.R_mono (Kd.R_step (Kd.R_drew (Kd.R_bound (Kd.R_types HR7.out HQ.out (by decide)))) (fun k hk hl => h2.block k hl hk.1.2 hk.1.2)) (fun _ _ => trivial)
        · subst hq
          exact h2.below (below_drew HB.out) HB.out.size (Nat.le_refl _) (Nat.le_refl _)⟩
      cases hd : (rs.done == 0) with
      | false =>
        have hd2 : (rs.done != 0) = true := by simp only [bne, hd]; rfl
        refine wp_region_noPanic ?_
        refine wp_region_held_drew (S := fun w' : World => w'.cell? ⟨X, 0, none⟩ = some (.int .u8 x.f0) ∧ w'.cell? ⟨X, 1, none⟩ = some (.int .u32 x.f1) ∧ w'.cell? ⟨X, 2, none⟩ = some (.string x.f2) ∧ w'.cell? ⟨X, 3, none⟩ = some (.int .u32 x.f3) ∧ w'.cell? ⟨X, 4, none⟩ = some (.int .i64 x.f4) ∧ w'.cell? ⟨X, 5, none⟩ = some (.int .i64 x.f5) ∧ w'.cell? ⟨X, 6, none⟩ = some (.int .i64 x.f6) ∧ w'.cell? ⟨X, 7, none⟩ = some (.string x.f7) ∧ w'.cell? ⟨X, 8, none⟩ = some (.int .u32 x.f8.f0) ∧ w'.cell? ⟨X, 9, none⟩ = some (.int .i64 x.f8.f1) ∧ w'.cell? ⟨X, 10, none⟩ = some (.int .i64 x.f8.f2) ∧ w'.cell? ⟨X, 11, none⟩ = some (.int .i64 x.f8.f3) ∧ w'.cell? ⟨X, 12, none⟩ = some (.int .i64 x.f8.f4) ∧ w'.cell? ⟨X, 13, none⟩ = some (.int .i64 x.f8.f5) ∧ w'.cell? ⟨X, 14, none⟩ = some (.slice A7 x.f8.f6.length cp7)) (by kernel_rfl) ?_ (fun hHeld => ?_)
        · exact ⟨y0, y1, y2, y3, y4, y5, y6, y7, y8, y9, y10, y11, y12, y13, y14⟩
        refine wpAnyH_take (i := 0) (oi := { dst := some 36, op := Go.Op.load 27 (Go.Operand.tmp 7), type := 27, pos := "msg.go:106", after := #[], guard := none }) (v := ?vrf0) rfl (by kernel_rfl) (by kernel_rfl) (by kernel_rfl) (fun _ _ _ h => h) (Or.inl ⟨by rfl, ?hyrf0⟩) hHeld ?restrf0
        case hyrf0 => (intro w hSw; (try dsimp only at hSw); go_simp <;> with_reducible rfl)
        try simp only [Act.put, List.setIfInBounds_toArray, List.set_cons_zero, List.set_cons_succ]
        refine wpAnyH_take (i := 1) (oi := { dst := some 37, op := Go.Op.move (Go.Operand.tmp 6), type := 59, pos := "msg.go:106", after := #[], guard := none }) (v := ?vrf1) rfl (by kernel_rfl) (by kernel_rfl) (by kernel_rfl) (fun _ _ _ h => h) (Or.inl ⟨by rfl, ?hyrf1⟩) hHeld ?restrf1
        case hyrf1 => (intro w hSw; (try dsimp only at hSw); go_simp <;> with_reducible rfl)
        try simp only [Act.put, List.setIfInBounds_toArray, List.set_cons_zero, List.set_cons_succ]
        refine wpAnyH_ready (rs := [2]) (by kernel_rfl) (by simp) ?_
        refine AllReadyH.cons (o := { dst := some 38, op := Go.Op.call { callee := Go.Callee.value (Go.Operand.func 31), args := #[Go.Operand.tmp 37], argTypes := #[59] }, type := 30, pos := "msg.go:106", after := #[{ on := 1, ground := Go.Ground.data }], guard := none }) rfl (fun K hK => ?_) AllReadyH.nil
        go_simp
        go_wp2_with (first | (go_at_call 31; (with_reducible refine KD2.out.mono ?_); rintro e w9 ⟨rfl, rfl⟩))
        refine hK.out _ _ (⟨y0, y1, y2, y3, y4, y5, y6, y7, y8, y9, y10, y11, y12, y13, y14⟩) (fun hHeld' => ?_)
        clear hK K hHeld
        have hHeld := hHeld'
        clear hHeld'
        try simp only [Act.put, List.setIfInBounds_toArray, List.set_cons_zero, List.set_cons_succ]
        refine wpAnyH_take (i := 3) (oi := { dst := some 39, op := Go.Op.binOp Go.BinOp.eql 30 (Go.Operand.tmp 38) (Go.Operand.const (Go.Value.int Go.IntKind.i64 0)) 30, type := 4, pos := "msg.go:106", after := #[{ on := 2, ground := Go.Ground.data }], guard := none }) (v := ?vrf3) rfl (by kernel_rfl) (by kernel_rfl) (by kernel_rfl) (fun _ _ _ h => h) (Or.inl ⟨by rfl, ?hyrf3⟩) hHeld ?restrf3
        case hyrf3 => (intro w hSw; (try dsimp only at hSw); go_simp <;> with_reducible rfl)
        try simp only [Act.put, List.setIfInBounds_toArray, List.set_cons_zero, List.set_cons_succ]
        refine wpAnyH_take (i := 4) (oi := { dst := some 40, op := Go.Op.move (Go.Operand.tmp 39), type := 4, pos := "msg.go:106", after := #[{ on := 3, ground := Go.Ground.data }, { on := 2, ground := Go.Ground.chain }], guard := none }) (v := ?vrf4) rfl (by kernel_rfl) (by kernel_rfl) (by kernel_rfl) (fun _ _ _ h => h) (Or.inl ⟨by rfl, ?hyrf4⟩) hHeld ?restrf4
        case hyrf4 => (intro w hSw; (try dsimp only at hSw); go_simp <;> with_reducible rfl)
        try simp only [Act.put, List.setIfInBounds_toArray, List.set_cons_zero, List.set_cons_succ]
        refine wpAnyH_take (i := 5) (oi := { dst := some 41, op := Go.Op.move (Go.Operand.tmp 8), type := 4, pos := "msg.go:106", after := #[{ on := 4, ground := Go.Ground.guard }, { on := 7, ground := Go.Ground.gcOnly Go.Departure.lateStores }], guard := some (4, true) }) (v := undef) rfl (by kernel_rfl) (by kernel_rfl) (by kernel_rfl) (fun _ _ _ h => h) (Or.inr ⟨by rfl, rfl⟩) hHeld ?_
        try simp only [Act.put, List.setIfInBounds_toArray, List.set_cons_zero, List.set_cons_succ]
        refine wpAnyH_take (i := 6) (oi := { dst := some 42, op := Go.Op.pick (Go.Operand.tmp 40) (Go.Operand.tmp 41) (Go.Operand.const (Go.Value.bool false)), type := 4, pos := "msg.go:106", after := #[{ on := 4, ground := Go.Ground.data }, { on := 5, ground := Go.Ground.data }, { on := 7, ground := Go.Ground.gcOnly Go.Departure.lateStores }], guard := none }) (v := ?vrf6) rfl (by kernel_rfl) (by kernel_rfl) (by kernel_rfl) (fun _ _ _ h => h) (Or.inl ⟨by rfl, ?hyrf6⟩) hHeld ?restrf6
        case hyrf6 => (intro w hSw; (try dsimp only at hSw); go_simp <;> with_reducible rfl)
        try simp only [Act.put, List.setIfInBounds_toArray, List.set_cons_zero, List.set_cons_succ]
        refine wpAnyH_ready (rs := [7]) (by kernel_rfl) (by simp) ?_
        refine AllReadyH.cons (o := { dst := none, op := Go.Op.store 27 (Go.Operand.tmp 4) (Go.Operand.tmp 36), type := 0, pos := "msg.go:106", after := #[{ on := 0, ground := Go.Ground.data }, { on := 4, ground := Go.Ground.chain }, { on := 0, ground := Go.Ground.phase }, { on := 1, ground := Go.Ground.textOnly Go.Departure.lateStores }, { on := 2, ground := Go.Ground.textOnly Go.Departure.lateStoresUnsure }, { on := 3, ground := Go.Ground.textOnly Go.Departure.lateStores }, { on := 4, ground := Go.Ground.textOnly Go.Departure.lateStores }, { on := 5, ground := Go.Ground.textOnly Go.Departure.lateStores }, { on := 6, ground := Go.Ground.textOnly Go.Departure.lateStores }], guard := none }) rfl (fun K hK => ?_) AllReadyH.nil
        go_simp
        have e3 := X15_put (W := wr) (q := q) HQ.out (.int .u8 x.f0) (.int .u32 x.f1) (.string x.f2) (.int .u32 x.f3) (.int .i64 x.f4) (.int .i64 x.f5) (.int .i64 x.f6) (.string x.f7) (.int .u32 x.f8.f0) (.int .i64 x.f8.f1) (.int .i64 x.f8.f2) (.int .i64 x.f8.f3) (.int .i64 x.f8.f4) (.int .i64 x.f8.f5) (.slice A7 x.f8.f6.length cp7)
        have e4 := X15_kpt wr q q (.int .u8 x.f0) (.int .u32 x.f1) (.string x.f2) (.int .u32 x.f3) (.int .i64 x.f4) (.int .i64 x.f5) (.int .i64 x.f6) (.string x.f7) (.int .u32 x.f8.f0) (.int .i64 x.f8.f1) (.int .i64 x.f8.f2) (.int .i64 x.f8.f3) (.int .i64 x.f8.f4) (.int .i64 x.f8.f5) (.slice A7 x.f8.f6.length cp7)
        have e5 := X15_cells (W := wr) HXB.out hXq (.int .u8 x.f0) (.int .u32 x.f1) (.string x.f2) (.int .u32 x.f3) (.int .i64 x.f4) (.int .i64 x.f5) (.int .i64 x.f6) (.string x.f7) (.int .u32 x.f8.f0) (.int .i64 x.f8.f1) (.int .i64 x.f8.f2) (.int .i64 x.f8.f3) (.int .i64 x.f8.f4) (.int .i64 x.f8.f5) (.slice A7 x.f8.f6.length cp7)
        unfold X15 at e3 e4 e5
        generalize (((((((((((((((wr.setCell ⟨q, 0, none⟩ (.int .u8 x.f0)).setCell ⟨q, 1, none⟩ (.int .u32 x.f1)).setCell ⟨q, 2, none⟩ (.string x.f2)).setCell ⟨q, 3, none⟩ (.int .u32 x.f3)).setCell ⟨q, 4, none⟩ (.int .i64 x.f4)).setCell ⟨q, 5, none⟩ (.int .i64 x.f5)).setCell ⟨q, 6, none⟩ (.int .i64 x.f6)).setCell ⟨q, 7, none⟩ (.string x.f7)).setCell ⟨q, 8, none⟩ (.int .u32 x.f8.f0)).setCell ⟨q, 9, none⟩ (.int .i64 x.f8.f1)).setCell ⟨q, 10, none⟩ (.int .i64 x.f8.f2)).setCell ⟨q, 11, none⟩ (.int .i64 x.f8.f3)).setCell ⟨q, 12, none⟩ (.int .i64 x.f8.f4)).setCell ⟨q, 13, none⟩ (.int .i64 x.f8.f5)).setCell ⟨q, 14, none⟩ (.slice A7 x.f8.f6.length cp7)) = W9 at e3 e4 e5 ⊢
        refine hK.out _ _ (e5) (fun hHeld' => ?_)
        clear hK K hHeld
        have hHeld := hHeld'
        clear hHeld'
        try simp only [Act.put, List.setIfInBounds_toArray, List.set_cons_zero, List.set_cons_succ]
        refine wpAnyH_take (i := 8) (oi := { dst := some 5, op := Go.Op.assign (Go.Operand.tmp 42), type := 4, pos := "msg.go:106", after := #[{ on := 6, ground := Go.Ground.data }, { on := 7, ground := Go.Ground.chain }, { on := 0, ground := Go.Ground.phase }, { on := 1, ground := Go.Ground.phase }, { on := 2, ground := Go.Ground.phase }, { on := 3, ground := Go.Ground.phase }, { on := 4, ground := Go.Ground.phase }, { on := 5, ground := Go.Ground.phase }, { on := 6, ground := Go.Ground.phase }, { on := 7, ground := Go.Ground.phase }], guard := none }) (v := ?vrf8) rfl (by kernel_rfl) (by kernel_rfl) (by kernel_rfl) (fun _ _ _ h => h) (Or.inl ⟨by rfl, ?hyrf8⟩) hHeld ?restrf8
        case hyrf8 => (intro w hSw; (try dsimp only at hSw); go_simp <;> with_reducible rfl)
        try simp only [Act.put, List.setIfInBounds_toArray, List.set_cons_zero, List.set_cons_succ]
        refine wpAnyH_done (by kernel_rfl) ?_ _
        refine NoPanic.normal ?_
        go_wp2_with fail
        obtain ⟨r0, r1, r2, r3, r4, r5, r6, r7, r8, r9, r10, r11, r12, r13, r14⟩ := rq_cells (show W9.drew.heap[q]? = _ from e3)
        exact bodyPost_ret (v := .tuple #[.agg (rqC x A7 x.f8.f6.length cp7), .bool false]) (by simp [results, Try.results24, go_sem, r0, r1, r2, r3, r4, r5, r6, r7, r8, r9, r10, r11, r12, r13, r14]) rfl (HFIN.out W9.drew e3 ⟨e4.os, e4.tape, e4.output, e4.size, e4.block⟩ _ (by rw [hd]; simp))
      | true =>
        have hd2 : (rs.done != 0) = false := by simp only [bne, hd]; rfl
        refine wp_region_noPanic ?_
        refine wp_region_held_drew (S := fun w' : World => w'.cell? ⟨X, 0, none⟩ = some (.int .u8 x.f0) ∧ w'.cell? ⟨X, 1, none⟩ = some (.int .u32 x.f1) ∧ w'.cell? ⟨X, 2, none⟩ = some (.string x.f2) ∧ w'.cell? ⟨X, 3, none⟩ = some (.int .u32 x.f3) ∧ w'.cell? ⟨X, 4, none⟩ = some (.int .i64 x.f4) ∧ w'.cell? ⟨X, 5, none⟩ = some (.int .i64 x.f5) ∧ w'.cell? ⟨X, 6, none⟩ = some (.int .i64 x.f6) ∧ w'.cell? ⟨X, 7, none⟩ = some (.string x.f7) ∧ w'.cell? ⟨X, 8, none⟩ = some (.int .u32 x.f8.f0) ∧ w'.cell? ⟨X, 9, none⟩ = some (.int .i64 x.f8.f1) ∧ w'.cell? ⟨X, 10, none⟩ = some (.int .i64 x.f8.f2) ∧ w'.cell? ⟨X, 11, none⟩ = some (.int .i64 x.f8.f3) ∧ w'.cell? ⟨X, 12, none⟩ = some (.int .i64 x.f8.f4) ∧ w'.cell? ⟨X, 13, none⟩ = some (.int .i64 x.f8.f5) ∧ w'.cell? ⟨X, 14, none⟩ = some (.slice A7 x.f8.f6.length cp7)) (by kernel_rfl) ?_ (fun hHeld => ?_)
        · exact ⟨y0, y1, y2, y3, y4, y5, y6, y7, y8, y9, y10, y11, y12, y13, y14⟩
        refine wpAnyH_take (i := 0) (oi := { dst := some 36, op := Go.Op.load 27 (Go.Operand.tmp 7), type := 27, pos := "msg.go:106", after := #[], guard := none }) (v := ?vrt0) rfl (by kernel_rfl) (by kernel_rfl) (by kernel_rfl) (fun _ _ _ h => h) (Or.inl ⟨by rfl, ?hyrt0⟩) hHeld ?restrt0
        case hyrt0 => (intro w hSw; (try dsimp only at hSw); go_simp <;> with_reducible rfl)
        try simp only [Act.put, List.setIfInBounds_toArray, List.set_cons_zero, List.set_cons_succ]
        refine wpAnyH_take (i := 1) (oi := { dst := some 37, op := Go.Op.move (Go.Operand.tmp 6), type := 59, pos := "msg.go:106", after := #[], guard := none }) (v := ?vrt1) rfl (by kernel_rfl) (by kernel_rfl) (by kernel_rfl) (fun _ _ _ h => h) (Or.inl ⟨by rfl, ?hyrt1⟩) hHeld ?restrt1
        case hyrt1 => (intro w hSw; (try dsimp only at hSw); go_simp <;> with_reducible rfl)
        try simp only [Act.put, List.setIfInBounds_toArray, List.set_cons_zero, List.set_cons_succ]
        refine wpAnyH_ready (rs := [2]) (by kernel_rfl) (by simp) ?_
        refine AllReadyH.cons (o := { dst := some 38, op := Go.Op.call { callee := Go.Callee.value (Go.Operand.func 31), args := #[Go.Operand.tmp 37], argTypes := #[59] }, type := 30, pos := "msg.go:106", after := #[{ on := 1, ground := Go.Ground.data }], guard := none }) rfl (fun K hK => ?_) AllReadyH.nil
        go_simp
        go_wp2_with (first | (go_at_call 31; (with_reducible refine KD2.out.mono ?_); rintro e w9 ⟨rfl, rfl⟩))
        refine hK.out _ _ (⟨y0, y1, y2, y3, y4, y5, y6, y7, y8, y9, y10, y11, y12, y13, y14⟩) (fun hHeld' => ?_)
        clear hK K hHeld
        have hHeld := hHeld'
        clear hHeld'
        try simp only [Act.put, List.setIfInBounds_toArray, List.set_cons_zero, List.set_cons_succ]
        refine wpAnyH_take (i := 3) (oi := { dst := some 39, op := Go.Op.binOp Go.BinOp.eql 30 (Go.Operand.tmp 38) (Go.Operand.const (Go.Value.int Go.IntKind.i64 0)) 30, type := 4, pos := "msg.go:106", after := #[{ on := 2, ground := Go.Ground.data }], guard := none }) (v := ?vrt3) rfl (by kernel_rfl) (by kernel_rfl) (by kernel_rfl) (fun _ _ _ h => h) (Or.inl ⟨by rfl, ?hyrt3⟩) hHeld ?restrt3
        case hyrt3 => (intro w hSw; (try dsimp only at hSw); go_simp <;> with_reducible rfl)
        try simp only [Act.put, List.setIfInBounds_toArray, List.set_cons_zero, List.set_cons_succ]
        refine wpAnyH_take (i := 4) (oi := { dst := some 40, op := Go.Op.move (Go.Operand.tmp 39), type := 4, pos := "msg.go:106", after := #[{ on := 3, ground := Go.Ground.data }, { on := 2, ground := Go.Ground.chain }], guard := none }) (v := ?vrt4) rfl (by kernel_rfl) (by kernel_rfl) (by kernel_rfl) (fun _ _ _ h => h) (Or.inl ⟨by rfl, ?hyrt4⟩) hHeld ?restrt4
        case hyrt4 => (intro w hSw; (try dsimp only at hSw); go_simp <;> with_reducible rfl)
        try simp only [Act.put, List.setIfInBounds_toArray, List.set_cons_zero, List.set_cons_succ]
        refine wpAnyH_take (i := 5) (oi := { dst := some 41, op := Go.Op.move (Go.Operand.tmp 8), type := 4, pos := "msg.go:106", after := #[{ on := 4, ground := Go.Ground.guard }, { on := 7, ground := Go.Ground.gcOnly Go.Departure.lateStores }], guard := some (4, true) }) (v := ?vrt5) rfl (by kernel_rfl) (by kernel_rfl) (by kernel_rfl) (fun _ _ _ h => h) (Or.inl ⟨by rfl, ?hyrt5⟩) hHeld ?restrt5
        case hyrt5 => (intro w hSw; (try dsimp only at hSw); go_simp <;> with_reducible rfl)
        try simp only [Act.put, List.setIfInBounds_toArray, List.set_cons_zero, List.set_cons_succ]
        refine wpAnyH_take (i := 6) (oi := { dst := some 42, op := Go.Op.pick (Go.Operand.tmp 40) (Go.Operand.tmp 41) (Go.Operand.const (Go.Value.bool false)), type := 4, pos := "msg.go:106", after := #[{ on := 4, ground := Go.Ground.data }, { on := 5, ground := Go.Ground.data }, { on := 7, ground := Go.Ground.gcOnly Go.Departure.lateStores }], guard := none }) (v := ?vrt6) rfl (by kernel_rfl) (by kernel_rfl) (by kernel_rfl) (fun _ _ _ h => h) (Or.inl ⟨by rfl, ?hyrt6⟩) hHeld ?restrt6
        case hyrt6 => (intro w hSw; (try dsimp only at hSw); go_simp <;> with_reducible rfl)
        try simp only [Act.put, List.setIfInBounds_toArray, List.set_cons_zero, List.set_cons_succ]
        refine wpAnyH_ready (rs := [7]) (by kernel_rfl) (by simp) ?_
        refine AllReadyH.cons (o := { dst := none, op := Go.Op.store 27 (Go.Operand.tmp 4) (Go.Operand.tmp 36), type := 0, pos := "msg.go:106", after := #[{ on := 0, ground := Go.Ground.data }, { on := 4, ground := Go.Ground.chain }, { on := 0, ground := Go.Ground.phase }, { on := 1, ground := Go.Ground.textOnly Go.Departure.lateStores }, { on := 2, ground := Go.Ground.textOnly Go.Departure.lateStoresUnsure }, { on := 3, ground := Go.Ground.textOnly Go.Departure.lateStores }, { on := 4, ground := Go.Ground.textOnly Go.Departure.lateStores }, { on := 5, ground := Go.Ground.textOnly Go.Departure.lateStores }, { on := 6, ground := Go.Ground.textOnly Go.Departure.lateStores }], guard := none }) rfl (fun K hK => ?_) AllReadyH.nil
        go_simp
        have e3 := X15_put (W := wr) (q := q) HQ.out (.int .u8 x.f0) (.int .u32 x.f1) (.string x.f2) (.int .u32 x.f3) (.int .i64 x.f4) (.int .i64 x.f5) (.int .i64 x.f6) (.string x.f7) (.int .u32 x.f8.f0) (.int .i64 x.f8.f1) (.int .i64 x.f8.f2) (.int .i64 x.f8.f3) (.int .i64 x.f8.f4) (.int .i64 x.f8.f5) (.slice A7 x.f8.f6.length cp7)
        have e4 := X15_kpt wr q q (.int .u8 x.f0) (.int .u32 x.f1) (.string x.f2) (.int .u32 x.f3) (.int .i64 x.f4) (.int .i64 x.f5) (.int .i64 x.f6) (.string x.f7) (.int .u32 x.f8.f0) (.int .i64 x.f8.f1) (.int .i64 x.f8.f2) (.int .i64 x.f8.f3) (.int .i64 x.f8.f4) (.int .i64 x.f8.f5) (.slice A7 x.f8.f6.length cp7)
        have e5 := X15_cells (W := wr) HXB.out hXq (.int .u8 x.f0) (.int .u32 x.f1) (.string x.f2) (.int .u32 x.f3) (.int .i64 x.f4) (.int .i64 x.f5) (.int .i64 x.f6) (.string x.f7) (.int .u32 x.f8.f0) (.int .i64 x.f8.f1) (.int .i64 x.f8.f2) (.int .i64 x.f8.f3) (.int .i64 x.f8.f4) (.int .i64 x.f8.f5) (.slice A7 x.f8.f6.length cp7)
        unfold X15 at e3 e4 e5
        generalize (((((((((((((((wr.setCell ⟨q, 0, none⟩ (.int .u8 x.f0)).setCell ⟨q, 1, none⟩ (.int .u32 x.f1)).setCell ⟨q, 2, none⟩ (.string x.f2)).setCell ⟨q, 3, none⟩ (.int .u32 x.f3)).setCell ⟨q, 4, none⟩ (.int .i64 x.f4)).setCell ⟨q, 5, none⟩ (.int .i64 x.f5)).setCell ⟨q, 6, none⟩ (.int .i64 x.f6)).setCell ⟨q, 7, none⟩ (.string x.f7)).setCell ⟨q, 8, none⟩ (.int .u32 x.f8.f0)).setCell ⟨q, 9, none⟩ (.int .i64 x.f8.f1)).setCell ⟨q, 10, none⟩ (.int .i64 x.f8.f2)).setCell ⟨q, 11, none⟩ (.int .i64 x.f8.f3)).setCell ⟨q, 12, none⟩ (.int .i64 x.f8.f4)).setCell ⟨q, 13, none⟩ (.int .i64 x.f8.f5)).setCell ⟨q, 14, none⟩ (.slice A7 x.f8.f6.length cp7)) = W9 at e3 e4 e5 ⊢
        refine hK.out _ _ (e5) (fun hHeld' => ?_)
        clear hK K hHeld
        have hHeld := hHeld'
        clear hHeld'
        try simp only [Act.put, List.setIfInBounds_toArray, List.set_cons_zero, List.set_cons_succ]
        refine wpAnyH_take (i := 8) (oi := { dst := some 5, op := Go.Op.assign (Go.Operand.tmp 42), type := 4, pos := "msg.go:106", after := #[{ on := 6, ground := Go.Ground.data }, { on := 7, ground := Go.Ground.chain }, { on := 0, ground := Go.Ground.phase }, { on := 1, ground := Go.Ground.phase }, { on := 2, ground := Go.Ground.phase }, { on := 3, ground := Go.Ground.phase }, { on := 4, ground := Go.Ground.phase }, { on := 5, ground := Go.Ground.phase }, { on := 6, ground := Go.Ground.phase }, { on := 7, ground := Go.Ground.phase }], guard := none }) (v := ?vrt8) rfl (by kernel_rfl) (by kernel_rfl) (by kernel_rfl) (fun _ _ _ h => h) (Or.inl ⟨by rfl, ?hyrt8⟩) hHeld ?restrt8
        case hyrt8 => (intro w hSw; (try dsimp only at hSw); go_simp <;> with_reducible rfl)
        try simp only [Act.put, List.setIfInBounds_toArray, List.set_cons_zero, List.set_cons_succ]
        refine wpAnyH_done (by kernel_rfl) ?_ _
        refine NoPanic.normal ?_
        go_wp2_with fail
        obtain ⟨r0, r1, r2, r3, r4, r5, r6, r7, r8, r9, r10, r11, r12, r13, r14⟩ := rq_cells (show W9.drew.heap[q]? = _ from e3)
        exact bodyPost_ret (v := .tuple #[.agg (rqC x A7 x.f8.f6.length cp7), .bool ok]) (by simp [results, Try.results24, go_sem, r0, r1, r2, r3, r4, r5, r6, r7, r8, r9, r10, r11, r12, r13, r14]) rfl (HFIN.out W9.drew e3 ⟨e4.os, e4.tape, e4.output, e4.size, e4.block⟩ _ (by rw [hd]; simp))
end Go.Proofs.Ytanjkhdagegapaa.Ext
