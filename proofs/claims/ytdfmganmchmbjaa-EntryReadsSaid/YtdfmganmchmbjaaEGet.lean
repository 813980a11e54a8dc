/- entry's GetPack and GetLease, proved by walking their code. -/
import Derived.Test.YtdfmganmchmbjaaEPut2
import Derived.Deep.RegionWith
import Derived.Deep.RegionHeld3
namespace Go.Proofs.Ytdfmganmchmbjaa.Ext
open Go.RowKit Go.Proofs.YtdfmganmchmbjaaW.PrintWords Go.Proofs.YtdfmganmchmbjaaW.PrintLast Go.Proofs.YtdfmganmchmbjaaW.PrintMore Go.Proofs.YtdfmganmchmbjaaW.Hand Go.Proofs.Ytdfmganmchmbjaa.PZ
set_option linter.unusedVariables false
theorem blk_grown {W W' : World} {q : Nat} {o : Obj} {row : Option Nat} (h : Blk W q o) (hg : W.grownBy W' row) (hne : some q ≠ row) : Blk W' q o := ⟨(hg.block q h.lt hne).trans h.out⟩
theorem grown_set {w W : World} {row : Option Nat} (h : w.grownBy W row) (b i : Nat) (v : Value) (hp : w.heap.size ≤ b) : w.grownBy (W.setCell ⟨b, i, none⟩ v) row :=
  have g := grown_put W b i v
  ⟨g.os.trans h.os, g.tape.trans h.tape, g.output.trans h.output, Nat.le_trans h.size g.size, fun k hk hne => (g.block k (Nat.lt_of_lt_of_le hk h.size) (fun e => by injection e with e; omega)).trans (h.block k hk hne)⟩
theorem rdr_set {W : World} {g : Nat} {B : Nat → Prop} {r : Rs} (h : RdrS W g B r) (p : Addr) (v : Value) (hp : ∀ k, B k → k ≠ p.block) : RdrS (W.setCell p v) g B r :=
  RdrAt.keep h (fun k hk _ => heap_setCell_other W p k v (hp k hk))
theorem region_once {P : Program} {id : Nat} {ops : Array Oper} {b : Bool} {Q : Exit → Act → World → Prop} {a : Act} {w : World} (Φ : Act → World → Prop) (h : (Code.region id ops b).wp P (NoPanic (Exit.then Φ fun _ _ _ => False)) a w) (hq : ∀ a w, Φ a w → Q .normal a w) : (Code.region id ops b).wp P Q a w :=
  Code.wp_mono (fun e a w h => by have h := NoPanic.imp e a w h; cases e <;> first | exact hq a w h | exact (h : False).elim) h
/-- A number of 32 bits. -/
def Rs.small (r : Rs) : Int × Rs := (r.uint.1 % 4294967296, if 4294967295 < r.uint.1 then ⟨r.uint.2.xs, true⟩ else r.uint.2)
theorem Rs.uint_len (r : Rs) : r.uint.2.xs.length ≤ r.xs.length := by
  unfold Rs.uint Rs.take
  by_cases h : r.bad = true ∨ r.xs.length < 8
  · rw [if_pos h]; exact Nat.le_refl _
  · rw [if_neg h]; simp
theorem Rs.int_len (r : Rs) : r.int.2.xs.length ≤ r.xs.length := by
  unfold Rs.int Rs.take
  by_cases h : r.bad = true ∨ r.xs.length < 8
  · rw [if_pos h]; exact Nat.le_refl _
  · rw [if_neg h]; simp
theorem Rs.small_len (r : Rs) : r.small.2.xs.length ≤ r.xs.length := by
  unfold Rs.small
  have := Rs.uint_len r
  by_cases h : 4294967295 < r.uint.1
  · rw [if_pos h]; exact this
  · rw [if_neg h]; exact this
set_option maxRecDepth 100000 in
set_option maxHeartbeats 1600000 in
theorem small_calls (g : Nat) (B : Nat → Prop) (r : Rs) (w : World) (h : RdrS w g B r) (hm : r.xs.length ≤ 140737488355000) :
    Calls Try.prog 37 #[.agg #[.pointer (some ⟨g, 0, none⟩)]] w fun e w' => e = .returned (.int .u32 r.small.1) ∧ RdrS w' g B r.small.2 ∧ w.grownBy w' (some g) := by
  have HH := Aside0.mk h
  have hlt := Aside0.mk (uint_lt r h.bytes)
  have hgl : g < w.heap.size := by obtain ⟨A, c, h1, _⟩ := h; exact h1.lt
  have hsm : r.small = (r.uint.1 % 4294967296, if 4294967295 < r.uint.1 then ⟨r.uint.2.xs, true⟩ else r.uint.2) := rfl
  rw [hsm]
  obtain ⟨⟨u1, u2⟩, hu⟩ : ∃ u, r.uint = u := ⟨_, rfl⟩
  have ku := Aside0.mk (fun w h => Uint_calls g B r w h hm)
  rw [hu] at ku hlt ⊢
  have hu1 := hlt.out.1
  have ew : IntKind.u32.wrap u1 = u1 % 4294967296 := IntKind.wrap_u32 u1
  clear h hsm hu hm
  go_enter Try.func37, Try.ntmps37
  go_wp2_with fail
  have hx : Blk (w.alloc (Obj.cells #[.pointer (some ⟨g, 0, none⟩)] 78)) w.heap.size (Obj.cells #[.pointer (some ⟨g, 0, none⟩)] 78 (0, 0)) := Blk.new_
  have hb1 := below_alloc (Below.refl w.heap.size w) (Obj.cells #[.pointer (some ⟨g, 0, none⟩)] 78)
  refine (ku.out _ (RdrAt.alloc HH.out _)).mono ?_
  rintro e w2 ⟨rfl, hr, hg⟩
  have HR := Aside0.mk hr
  have hx2 := blk_grown hx hg (fun e => by injection e with e; omega)
  have x0 := hx2.cell 0
  simp at x0
  have HG : Aside0 (w.grownBy w2 (some g)) := ⟨grown_trans (grown_below hb1) hg⟩
  clear hr hg hx hx2 hb1 ku HH
  by_cases hbig : 4294967295 < u1
  · go_wp2_with fail
    refine (Bad_any g B u2.xs u2.bad w2 HR.out).mono ?_
    rintro e w3 ⟨rfl, hr, hg⟩
    have HR3 := Aside0.mk hr
    have HG3 := Aside0.mk (grown_trans HG.out hg)
    clear hr hg
    go_wp2_with fail
    go_ret
    refine ⟨rfl, ?_, HG3.out⟩
    exact HR3.out
  · go_wp2_with fail
    go_ret
    refine ⟨rfl, ?_, HG.out⟩
    exact HR.out
def rlease (r : Rs) : (Int × Int × Int × Int × Int) × Rs :=
  let s0 := r.small
  let s1 := s0.2.int
  let s2 := s1.2.int
  let s3 := s2.2.int
  let s4 := s3.2.int
  ((s0.1, s1.1, s2.1, s3.1, s4.1), s4.2)
set_option maxRecDepth 100000 in
set_option maxHeartbeats 1600000 in
theorem rlease_calls (g : Nat) (B : Nat → Prop) (r r' : Rs) (n0 n1 n2 n3 n4 : Int) (he : rlease r = ((n0, n1, n2, n3, n4), r')) (w : World) (h : RdrS w g B r) (hB : ∀ k, B k → k < w.heap.size) (hm : r.xs.length ≤ 140737488355000) :
    Calls Try.prog 36 #[.agg #[.pointer (some ⟨g, 0, none⟩)]] w fun e w' => e = .returned (.agg #[.int .u32 n0, .int .i64 n1, .int .i64 n2, .int .i64 n3, .int .i64 n4]) ∧ RdrS w' g B r' ∧ w.grownBy w' (some g) := by
  have HH := Aside0.mk h
  have HB := Aside0.mk hB
  have hgl : g < w.heap.size := by obtain ⟨A, c, h1, _⟩ := h; exact h1.lt
  unfold rlease at he
  simp only at he
  have kc0 := Aside0.mk (fun w h => small_calls g B r w h hm)
  have hm1 := Nat.le_trans (Rs.small_len r) hm
  obtain ⟨⟨m0, r1⟩, hu0⟩ : ∃ u, r.small = u := ⟨_, rfl⟩
  rw [hu0] at kc0 he hm1
  have kc1 := Aside0.mk (fun w h => Int_calls g B r1 w h hm1)
  have hm2 := Nat.le_trans (Rs.int_len r1) hm1
  obtain ⟨⟨m1, r2⟩, hu1⟩ : ∃ u, r1.int = u := ⟨_, rfl⟩
  rw [hu1] at kc1 he hm2
  have kc2 := Aside0.mk (fun w h => Int_calls g B r2 w h hm2)
  have hm3 := Nat.le_trans (Rs.int_len r2) hm2
  obtain ⟨⟨m2, r3⟩, hu2⟩ : ∃ u, r2.int = u := ⟨_, rfl⟩
  rw [hu2] at kc2 he hm3
  have kc3 := Aside0.mk (fun w h => Int_calls g B r3 w h hm3)
  have hm4 := Nat.le_trans (Rs.int_len r3) hm3
  obtain ⟨⟨m3, r4⟩, hu3⟩ : ∃ u, r3.int = u := ⟨_, rfl⟩
  rw [hu3] at kc3 he hm4
  have kc4 := Aside0.mk (fun w h => Int_calls g B r4 w h hm4)
  have hm5 := Nat.le_trans (Rs.int_len r4) hm4
  obtain ⟨⟨m4, r5⟩, hu4⟩ : ∃ u, r4.int = u := ⟨_, rfl⟩
  rw [hu4] at kc4 he hm5
  simp only [Prod.mk.injEq] at he
  obtain ⟨⟨e0, e1, e2, e3, e4⟩, er⟩ := he
  subst e0
  subst e1
  subst e2
  subst e3
  subst e4
  subst er
  clear h hB hu0 hu1 hu2 hu3 hu4 hm hm1 hm2 hm3 hm4 hm5
  go_enter Try.func36, Try.ntmps36
  go_wp2_with fail
  have X1 : Aside0 (Blk ((w.alloc (Obj.cells #[.pointer (some ⟨g, 0, none⟩)] 78)).alloc (Obj.cells #[.int .u32 0, .int .i64 0, .int .i64 0, .int .i64 0, .int .i64 0] 40)) w.heap.size (Obj.cells #[.pointer (some ⟨g, 0, none⟩)] 78 (0, 0))) := ⟨Blk.new_.alloc⟩
  have X2 : Aside0 (Blk ((w.alloc (Obj.cells #[.pointer (some ⟨g, 0, none⟩)] 78)).alloc (Obj.cells #[.int .u32 0, .int .i64 0, .int .i64 0, .int .i64 0, .int .i64 0] 40)) (w.heap.size + 1) (Obj.cells #[.int .u32 0, .int .i64 0, .int .i64 0, .int .i64 0, .int .i64 0] 40 (0, 0))) := ⟨Blk.new (by rw [size_alloc])⟩
  have HW : Aside0 (Below w.heap.size w ((w.alloc (Obj.cells #[.pointer (some ⟨g, 0, none⟩)] 78)).alloc (Obj.cells #[.int .u32 0, .int .i64 0, .int .i64 0, .int .i64 0, .int .i64 0] 40))) := ⟨below_alloc (below_alloc (Below.refl _ _) _) _⟩
  obtain ⟨wa, hwa⟩ : ∃ W, (w.alloc (Obj.cells #[.pointer (some ⟨g, 0, none⟩)] 78)).alloc (Obj.cells #[.int .u32 0, .int .i64 0, .int .i64 0, .int .i64 0, .int .i64 0] 40) = W := ⟨_, rfl⟩
  rw [hwa] at X1 X2 HW ⊢
  have HR0 : Aside0 (RdrS wa.drew g B r) := ⟨RdrAt.drew (RdrAt.below HH.out HW.out)⟩
  clear hwa
  obtain ⟨q, hq⟩ : ∃ q, w.heap.size = q := ⟨_, rfl⟩
  rw [hq] at X1 X2 hgl HB ⊢
  have x0 := X1.out.cell 0
  simp at x0
  have xd : wa.drew.cell? ⟨q, 0, none⟩ = some (.pointer (some ⟨g, 0, none⟩)) := (X1.out.drew.cell 0).trans rfl
  have y0 := X2.out.cell 0
  have y0f := X2.out.free 0
  simp at y0
  refine region_once (fun a W => a.tmps.getD 2 undef = .pointer (some ⟨q + 1, 0, none⟩) ∧ a.defers = [] ∧ Blk W (q + 1) (Obj.cells #[.int .u32 m0, .int .i64 m1, .int .i64 m2, .int .i64 m3, .int .i64 m4] 40 (0, 0)) ∧ RdrS W g B r5 ∧ w.grownBy W (some g)) ?_ ?_
  · go_region_held (fun W : World => W.cell? ⟨q, 0, none⟩ = some (.pointer (some ⟨g, 0, none⟩)))
      (first
        | with_reducible exact xd
        | with_reducible exact x00
        | with_reducible exact x01
        | with_reducible exact x02
        | with_reducible exact x03
        | with_reducible exact x04
        | go_keep)
      (first
        | (go_at_call 37; (with_reducible refine (kc0.out _ HR0.out).mono ?_); rintro e wr0 ⟨rfl, hr, hg⟩; (have R0 := Aside0.mk hr); (have X10 := Aside0.mk (blk_grown X1.out.drew hg (fun e => by injection e with e; omega))); (have X20 := Aside0.mk (blk_grown X2.out.drew hg (fun e => by injection e with e; omega))); (have G0 := Aside0.mk (grown_trans (grown_below (below_drew HW.out)) hg)); (have x00 := X10.out.cell 0); (simp at x00); clear hr hg)
        | (go_at_call 38; (with_reducible refine (kc1.out _ R0.out).mono ?_); rintro e wr1 ⟨rfl, hr, hg⟩; (have R1 := Aside0.mk hr); (have X11 := Aside0.mk (blk_grown X10.out hg (fun e => by injection e with e; omega))); (have X21 := Aside0.mk (blk_grown X20.out hg (fun e => by injection e with e; omega))); (have G1 := Aside0.mk (grown_trans G0.out hg)); (have x01 := X11.out.cell 0); (simp at x01); clear hr hg)
        | (go_at_call 38; (with_reducible refine (kc2.out _ R1.out).mono ?_); rintro e wr2 ⟨rfl, hr, hg⟩; (have R2 := Aside0.mk hr); (have X12 := Aside0.mk (blk_grown X11.out hg (fun e => by injection e with e; omega))); (have X22 := Aside0.mk (blk_grown X21.out hg (fun e => by injection e with e; omega))); (have G2 := Aside0.mk (grown_trans G1.out hg)); (have x02 := X12.out.cell 0); (simp at x02); clear hr hg)
        | (go_at_call 38; (with_reducible refine (kc3.out _ R2.out).mono ?_); rintro e wr3 ⟨rfl, hr, hg⟩; (have R3 := Aside0.mk hr); (have X13 := Aside0.mk (blk_grown X12.out hg (fun e => by injection e with e; omega))); (have X23 := Aside0.mk (blk_grown X22.out hg (fun e => by injection e with e; omega))); (have G3 := Aside0.mk (grown_trans G2.out hg)); (have x03 := X13.out.cell 0); (simp at x03); clear hr hg)
        | (go_at_call 38; (with_reducible refine (kc4.out _ R3.out).mono ?_); rintro e wr4 ⟨rfl, hr, hg⟩; (have R4 := Aside0.mk hr); (have X14 := Aside0.mk (blk_grown X13.out hg (fun e => by injection e with e; omega))); (have X24 := Aside0.mk (blk_grown X23.out hg (fun e => by injection e with e; omega))); (have G4 := Aside0.mk (grown_trans G3.out hg)); (have x04 := X14.out.cell 0); (simp at x04); (have y04 := (X24.out.cell 0).trans (rfl : _ = some (Value.int .u32 0))); (have yf04 := X24.out.free 0); (have y14 := (X24.out.cell 1).trans (rfl : _ = some (Value.int .i64 0))); (have yf14 := X24.out.free 1); (have y24 := (X24.out.cell 2).trans (rfl : _ = some (Value.int .i64 0))); (have yf24 := X24.out.free 2); (have y34 := (X24.out.cell 3).trans (rfl : _ = some (Value.int .i64 0))); (have yf34 := X24.out.free 3); (have y44 := (X24.out.cell 4).trans (rfl : _ = some (Value.int .i64 0))); (have yf44 := X24.out.free 4); clear hr hg))
    all_goals exact NoPanic.normal ⟨rfl, rfl, (((((X24.out.put 0 (.int .u32 m0) rfl).put 1 (.int .i64 m1) rfl).put 2 (.int .i64 m2) rfl).put 3 (.int .i64 m3) rfl).put 4 (.int .i64 m4) rfl), (rdr_set (rdr_set (rdr_set (rdr_set (rdr_set R4.out ⟨q + 1, 0, none⟩ (.int .u32 m0) (fun k hk e => by have := HB.out k hk; simp only at e; omega)) ⟨q + 1, 1, none⟩ (.int .i64 m1) (fun k hk e => by have := HB.out k hk; simp only at e; omega)) ⟨q + 1, 2, none⟩ (.int .i64 m2) (fun k hk e => by have := HB.out k hk; simp only at e; omega)) ⟨q + 1, 3, none⟩ (.int .i64 m3) (fun k hk e => by have := HB.out k hk; simp only at e; omega)) ⟨q + 1, 4, none⟩ (.int .i64 m4) (fun k hk e => by have := HB.out k hk; simp only at e; omega)), (grown_set (grown_set (grown_set (grown_set (grown_set G4.out (q + 1) 0 (.int .u32 m0) (by rw [hq]; exact Nat.le_succ q)) (q + 1) 1 (.int .i64 m1) (by rw [hq]; exact Nat.le_succ q)) (q + 1) 2 (.int .i64 m2) (by rw [hq]; exact Nat.le_succ q)) (q + 1) 3 (.int .i64 m3) (by rw [hq]; exact Nat.le_succ q)) (q + 1) 4 (.int .i64 m4) (by rw [hq]; exact Nat.le_succ q))⟩
  rintro ⟨t, d⟩ W ⟨h2, hd, hX, hR, hG⟩
  have hd : d = [] := hd
  subst hd
  have h2 : t.getD 2 undef = .pointer (some ⟨q + 1, 0, none⟩) := h2
  have h3 : t[2]?.getD undef = .pointer (some ⟨q + 1, 0, none⟩) := by rw [← Array.getD_eq_getD_getElem?]; exact h2
  have z0 := (hX.cell 0).trans (rfl : _ = some (Value.int .u32 m0))
  have z1 := (hX.cell 1).trans (rfl : _ = some (Value.int .i64 m1))
  have z2 := (hX.cell 2).trans (rfl : _ = some (Value.int .i64 m2))
  have z3 := (hX.cell 3).trans (rfl : _ = some (Value.int .i64 m3))
  have z4 := (hX.cell 4).trans (rfl : _ = some (Value.int .i64 m4))
  have HR := Aside0.mk hR
  have HG := Aside0.mk hG
  clear hR hG hX
  go_wp2_with fail
  refine bodyPost_ret (v := .agg #[.int .u32 m0, .int .i64 m1, .int .i64 m2, .int .i64 m3, .int .i64 m4]) ?_ rfl ⟨rfl, HR.out, HG.out⟩
  simp [results, Try.results36, go_sem, h3, z0, z1, z2, z3, z4]
def rpack (r : Rs) : (Int × Int) × Rs :=
  let s0 := r.small
  let s1 := s0.2.int
  ((s0.1, s1.1), s1.2)
set_option maxRecDepth 100000 in
set_option maxHeartbeats 1600000 in
theorem rpack_calls (g : Nat) (B : Nat → Prop) (r r' : Rs) (n0 n1 : Int) (he : rpack r = ((n0, n1), r')) (w : World) (h : RdrS w g B r) (hB : ∀ k, B k → k < w.heap.size) (hm : r.xs.length ≤ 140737488355000) :
    Calls Try.prog 49 #[.agg #[.pointer (some ⟨g, 0, none⟩)]] w fun e w' => e = .returned (.agg #[.int .u32 n0, .int .i64 n1]) ∧ RdrS w' g B r' ∧ w.grownBy w' (some g) := by
  have HH := Aside0.mk h
  have HB := Aside0.mk hB
  have hgl : g < w.heap.size := by obtain ⟨A, c, h1, _⟩ := h; exact h1.lt
  unfold rpack at he
  simp only at he
  have kc0 := Aside0.mk (fun w h => small_calls g B r w h hm)
  have hm1 := Nat.le_trans (Rs.small_len r) hm
  obtain ⟨⟨m0, r1⟩, hu0⟩ : ∃ u, r.small = u := ⟨_, rfl⟩
  rw [hu0] at kc0 he hm1
  have kc1 := Aside0.mk (fun w h => Int_calls g B r1 w h hm1)
  have hm2 := Nat.le_trans (Rs.int_len r1) hm1
  obtain ⟨⟨m1, r2⟩, hu1⟩ : ∃ u, r1.int = u := ⟨_, rfl⟩
  rw [hu1] at kc1 he hm2
  simp only [Prod.mk.injEq] at he
  obtain ⟨⟨e0, e1⟩, er⟩ := he
  subst e0
  subst e1
  subst er
  clear h hB hu0 hu1 hm hm1 hm2
  go_enter Try.func49, Try.ntmps49
  go_wp2_with fail
  have X1 : Aside0 (Blk ((w.alloc (Obj.cells #[.pointer (some ⟨g, 0, none⟩)] 78)).alloc (Obj.cells #[.int .u32 0, .int .i64 0] 42)) w.heap.size (Obj.cells #[.pointer (some ⟨g, 0, none⟩)] 78 (0, 0))) := ⟨Blk.new_.alloc⟩
  have X2 : Aside0 (Blk ((w.alloc (Obj.cells #[.pointer (some ⟨g, 0, none⟩)] 78)).alloc (Obj.cells #[.int .u32 0, .int .i64 0] 42)) (w.heap.size + 1) (Obj.cells #[.int .u32 0, .int .i64 0] 42 (0, 0))) := ⟨Blk.new (by rw [size_alloc])⟩
  have HW : Aside0 (Below w.heap.size w ((w.alloc (Obj.cells #[.pointer (some ⟨g, 0, none⟩)] 78)).alloc (Obj.cells #[.int .u32 0, .int .i64 0] 42))) := ⟨below_alloc (below_alloc (Below.refl _ _) _) _⟩
  obtain ⟨wa, hwa⟩ : ∃ W, (w.alloc (Obj.cells #[.pointer (some ⟨g, 0, none⟩)] 78)).alloc (Obj.cells #[.int .u32 0, .int .i64 0] 42) = W := ⟨_, rfl⟩
  rw [hwa] at X1 X2 HW ⊢
  have HR0 : Aside0 (RdrS wa.drew g B r) := ⟨RdrAt.drew (RdrAt.below HH.out HW.out)⟩
  clear hwa
  obtain ⟨q, hq⟩ : ∃ q, w.heap.size = q := ⟨_, rfl⟩
  rw [hq] at X1 X2 hgl HB ⊢
  have x0 := X1.out.cell 0
  simp at x0
  have xd : wa.drew.cell? ⟨q, 0, none⟩ = some (.pointer (some ⟨g, 0, none⟩)) := (X1.out.drew.cell 0).trans rfl
  have y0 := X2.out.cell 0
  have y0f := X2.out.free 0
  simp at y0
  refine region_once (fun a W => a.tmps.getD 2 undef = .pointer (some ⟨q + 1, 0, none⟩) ∧ a.defers = [] ∧ Blk W (q + 1) (Obj.cells #[.int .u32 m0, .int .i64 m1] 42 (0, 0)) ∧ RdrS W g B r2 ∧ w.grownBy W (some g)) ?_ ?_
  · go_region_held (fun W : World => W.cell? ⟨q, 0, none⟩ = some (.pointer (some ⟨g, 0, none⟩)))
      (first
        | with_reducible exact xd
        | with_reducible exact x00
        | with_reducible exact x01
        | go_keep)
      (first
        | (go_at_call 37; (with_reducible refine (kc0.out _ HR0.out).mono ?_); rintro e wr0 ⟨rfl, hr, hg⟩; (have R0 := Aside0.mk hr); (have X10 := Aside0.mk (blk_grown X1.out.drew hg (fun e => by injection e with e; omega))); (have X20 := Aside0.mk (blk_grown X2.out.drew hg (fun e => by injection e with e; omega))); (have G0 := Aside0.mk (grown_trans (grown_below (below_drew HW.out)) hg)); (have x00 := X10.out.cell 0); (simp at x00); clear hr hg)
        | (go_at_call 38; (with_reducible refine (kc1.out _ R0.out).mono ?_); rintro e wr1 ⟨rfl, hr, hg⟩; (have R1 := Aside0.mk hr); (have X11 := Aside0.mk (blk_grown X10.out hg (fun e => by injection e with e; omega))); (have X21 := Aside0.mk (blk_grown X20.out hg (fun e => by injection e with e; omega))); (have G1 := Aside0.mk (grown_trans G0.out hg)); (have x01 := X11.out.cell 0); (simp at x01); (have y01 := (X21.out.cell 0).trans (rfl : _ = some (Value.int .u32 0))); (have yf01 := X21.out.free 0); (have y11 := (X21.out.cell 1).trans (rfl : _ = some (Value.int .i64 0))); (have yf11 := X21.out.free 1); clear hr hg))
    all_goals exact NoPanic.normal ⟨rfl, rfl, ((X21.out.put 0 (.int .u32 m0) rfl).put 1 (.int .i64 m1) rfl), (rdr_set (rdr_set R1.out ⟨q + 1, 0, none⟩ (.int .u32 m0) (fun k hk e => by have := HB.out k hk; simp only at e; omega)) ⟨q + 1, 1, none⟩ (.int .i64 m1) (fun k hk e => by have := HB.out k hk; simp only at e; omega)), (grown_set (grown_set G1.out (q + 1) 0 (.int .u32 m0) (by rw [hq]; exact Nat.le_succ q)) (q + 1) 1 (.int .i64 m1) (by rw [hq]; exact Nat.le_succ q))⟩
  rintro ⟨t, d⟩ W ⟨h2, hd, hX, hR, hG⟩
  have hd : d = [] := hd
  subst hd
  have h2 : t.getD 2 undef = .pointer (some ⟨q + 1, 0, none⟩) := h2
  have h3 : t[2]?.getD undef = .pointer (some ⟨q + 1, 0, none⟩) := by rw [← Array.getD_eq_getD_getElem?]; exact h2
  have z0 := (hX.cell 0).trans (rfl : _ = some (Value.int .u32 m0))
  have z1 := (hX.cell 1).trans (rfl : _ = some (Value.int .i64 m1))
  have HR := Aside0.mk hR
  have HG := Aside0.mk hG
  clear hR hG hX
  go_wp2_with fail
  refine bodyPost_ret (v := .agg #[.int .u32 m0, .int .i64 m1]) ?_ rfl ⟨rfl, HR.out, HG.out⟩
  simp [results, Try.results49, go_sem, h3, z0, z1]
end Go.Proofs.Ytdfmganmchmbjaa.Ext
