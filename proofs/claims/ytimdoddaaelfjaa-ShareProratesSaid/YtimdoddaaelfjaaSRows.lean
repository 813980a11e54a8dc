/- Three rows that grow side by side, one of them in a box. -/
import Derived.Test.YtimdoddaaelfjaaSBey
namespace Go.Proofs.Ytimdoddaaelfjaa.Ext
open Go.RowKit Go.Proofs.YtimdoddaaelfjaaW.PrintWords Go.Proofs.YtimdoddaaelfjaaW.PrintLast Go.Proofs.YtimdoddaaelfjaaW.PrintMore Go.Proofs.YtimdoddaaelfjaaW.Hand
set_option linter.unusedVariables false
theorem infoL : (Try.prog.info? 2).map (fun i => (i.zero, i.size, i.bytes)) = some (some (.int .i64 0), 1, 8) := by kernel_rfl
theorem infoI : (Try.prog.info? 3).map (fun i => (i.zero, i.size, i.bytes)) = some (some (.int .i64 0), 1, 8) := by kernel_rfl
/-- The rows out (vo), rests (vr, in the box gb, which holds vb) and order (vd); blocks of one number that are to be added. -/
structure N3 (W0 : World) (L gb : Nat) (W : World) (vb vo vr vd : Value) (xo xr xd : List Int) (hs : List (Nat × Int × Nat)) : Prop where
  o : W.ownsRow L 2 1 vo xo.length (nums .i64 xo)
  r : W.ownsRow L 2 1 vr xr.length (nums .i64 xr)
  d : W.ownsRow L 3 1 vd xd.length (nums .i64 xd)
  box : Blk W gb (.cells #[vb] 22 (0, 0))
  ap : ∀ k, vo.ownBlock = some k → vr.ownBlock ≠ some k
  new : ∀ x ∈ hs, Blk W x.1 (.cells #[.int .i64 x.2.1] x.2.2 (0, 0)) ∧ some x.1 ≠ vo.ownBlock ∧ some x.1 ≠ vr.ownBlock ∧ some x.1 ≠ vd.ownBlock
  lb : L ≤ W.heap.size
  gl : L ≤ gb
  low : Below L W0 W
section
variable {W0 W : World} {L gb : Nat} {vb vo vr vd : Value} {xo xr xd : List Int} {hs : List (Nat × Int × Nat)}
theorem blk_grown {W w1 : World} {g : Nat} {o : Obj} {row : Option Nat} (h : Blk W g o) (hg : W.grownBy w1 row) (hne : some g ≠ row) : Blk w1 g o := ⟨(hg.block g h.lt hne).trans h.out⟩
theorem size_ne {W : World} {L e : Nat} {v : Value} {n : Nat} {xs : List Value} (h : W.ownsRow L e 1 v n xs) : some W.heap.size ≠ v.ownBlock := fun e => by
  have := own_lt h W.heap.size e.symm
  omega
theorem N3.alloc (h : N3 W0 L gb W vb vo vr vd xo xr xd hs) (u : Int) (e : Nat) : N3 W0 L gb (W.alloc (.cells #[.int .i64 u] e)) vb vo vr vd xo xr xd ((W.heap.size, u, e) :: hs) := by
  have hb : Below W.heap.size W (W.alloc (.cells #[.int .i64 u] e)) := below_alloc (Below.refl _ _) _
  refine ⟨pw_own_below h.o hb, pw_own_below h.r hb, pw_own_below h.d hb, h.box.below hb, h.ap, fun x hx => ?_, by rw [size_alloc]; have := h.lb; omega, h.gl, h.low.alloc h.lb _⟩
  rcases List.mem_cons.1 hx with rfl | hx
  · exact ⟨Blk.new_, size_ne h.o, size_ne h.r, size_ne h.d⟩
  · obtain ⟨a, b⟩ := h.new x hx
    exact ⟨a.below hb, b⟩
theorem N3.drewN (h : N3 W0 L gb W vb vo vr vd xo xr xd hs) (q : Nat) : N3 W0 L gb (W.drewN q) vb vo vr vd xo xr xd hs := by
  have hb : Below W.heap.size W (W.drewN q) := pw_below_drewN (Below.refl _ _) q
  exact ⟨pw_own_below h.o hb, pw_own_below h.r hb, pw_own_below h.d hb, h.box.below hb, h.ap, fun x hx => ⟨(h.new x hx).1.below hb, (h.new x hx).2⟩, h.lb, h.gl, pw_below_drewN h.low q⟩
theorem N3.drew (h : N3 W0 L gb W vb vo vr vd xo xr xd hs) : N3 W0 L gb W.drew vb vo vr vd xo xr xd hs := h.drewN 1
theorem N3.below {W' : World} (h : N3 W0 L gb W vb vo vr vd xo xr xd hs) (hb : Below W.heap.size W W') : N3 W0 L gb W' vb vo vr vd xo xr xd hs :=
  ⟨pw_own_below h.o hb, pw_own_below h.r hb, pw_own_below h.d hb, h.box.below hb, h.ap, fun x hx => ⟨(h.new x hx).1.below hb, (h.new x hx).2⟩, Nat.le_trans h.lb hb.size, h.gl, h.low.trans ⟨hb.os, hb.tape, hb.output, hb.size, fun i hi => hb.block i (Nat.lt_of_lt_of_le hi h.lb)⟩⟩
theorem N3.clear (h : N3 W0 L gb W vb vo vr vd xo xr xd hs) : N3 W0 L gb W vb vo vr vd xo xr xd [] := ⟨h.o, h.r, h.d, h.box, h.ap, fun x hx => by simp at hx, h.lb, h.gl, h.low⟩
theorem ne_of_at {W : World} {x : Nat} {o : Obj} {v v1 : Value} (hx : Blk W x o) (hn : some x ≠ v.ownBlock) (hat : v1.ownBlock = v.ownBlock ∨ v1.ownBlock = some W.heap.size) : some x ≠ v1.ownBlock := by
  rcases hat with e | e
  · rw [e]; exact hn
  · rw [e]; intro e; injection e with e; have := hx.lt; omega
theorem ap_of {v v' : Value} (h : ∀ k, v.ownBlock = some k → v'.ownBlock ≠ some k) : v'.ownBlock = none ∨ v'.ownBlock ≠ v.ownBlock := by
  cases e : v'.ownBlock with
  | none => exact .inl rfl
  | some k => exact .inr (fun e2 => h k e2.symm e)
theorem N3.grow_o (h : N3 W0 L gb W vb vo vr vd xo xr xd hs) {u : Int} {v1 : Value} {w1 : World} (ho : w1.ownsRow L 2 1 v1 (xo.length + 1) (nums .i64 xo ++ [.int .i64 u])) (hg : W.grownBy w1 vo.ownBlock)
    (hat : v1.ownBlock = vo.ownBlock ∨ v1.ownBlock = some W.heap.size) : N3 W0 L gb w1 vb v1 vr vd (xo ++ [u]) xr xd hs := by
  refine ⟨?_, own_other h.r hg (ap_of h.ap), own_other h.d hg (own_type_ne h.d h.o (by decide)), blk_grown h.box hg (own_ne h.o h.box.out (by decide)), fun k hk e => ?_, fun x hx => ?_, Nat.le_trans h.lb hg.size, h.gl, h.low.grown hg h.lb (own_base h.o)⟩
  · rw [List.length_append]; unfold nums; rw [List.map_append]; exact ho
  · rcases hat with e2 | e2
    · rw [e2] at hk; exact h.ap k hk e
    · rw [e2] at hk; injection hk with hk; exact size_ne h.r (by rw [e, hk])
  · obtain ⟨a, b, c, d⟩ := h.new x hx
    exact ⟨blk_grown a hg b, ne_of_at a b hat, c, d⟩
theorem N3.grow_r (h : N3 W0 L gb W vb vo vr vd xo xr xd hs) {u : Int} {v1 : Value} {w1 : World} (ho : w1.ownsRow L 2 1 v1 (xr.length + 1) (nums .i64 xr ++ [.int .i64 u])) (hg : W.grownBy w1 vr.ownBlock)
    (hat : v1.ownBlock = vr.ownBlock ∨ v1.ownBlock = some W.heap.size) : N3 W0 L gb w1 vb vo v1 vd xo (xr ++ [u]) xd hs := by
  refine ⟨own_other h.o hg (ap_of fun k hk e => h.ap k e hk), ?_, own_other h.d hg (own_type_ne h.d h.r (by decide)), blk_grown h.box hg (own_ne h.r h.box.out (by decide)), fun k hk e => ?_, fun x hx => ?_, Nat.le_trans h.lb hg.size, h.gl, h.low.grown hg h.lb (own_base h.r)⟩
  · rw [List.length_append]; unfold nums; rw [List.map_append]; exact ho
  · rcases hat with e2 | e2
    · rw [e2] at e; exact h.ap k hk e
    · rw [e2] at e; injection e with e; exact size_ne h.o (by rw [hk, e])
  · obtain ⟨a, b, c, d⟩ := h.new x hx
    exact ⟨blk_grown a hg c, b, ne_of_at a c hat, d⟩
theorem N3.grow_d (h : N3 W0 L gb W vb vo vr vd xo xr xd hs) {u : Int} {v1 : Value} {w1 : World} (ho : w1.ownsRow L 3 1 v1 (xd.length + 1) (nums .i64 xd ++ [.int .i64 u])) (hg : W.grownBy w1 vd.ownBlock)
    (hat : v1.ownBlock = vd.ownBlock ∨ v1.ownBlock = some W.heap.size) : N3 W0 L gb w1 vb vo vr v1 xo xr (xd ++ [u]) hs := by
  refine ⟨own_other h.o hg (own_type_ne h.o h.d (by decide)), own_other h.r hg (own_type_ne h.r h.d (by decide)), ?_, blk_grown h.box hg (own_ne h.d h.box.out (by decide)), h.ap, fun x hx => ?_, Nat.le_trans h.lb hg.size, h.gl, h.low.grown hg h.lb (own_base h.d)⟩
  · rw [List.length_append]; unfold nums; rw [List.map_append]; exact ho
  · obtain ⟨a, b, c, d⟩ := h.new x hx
    exact ⟨blk_grown a hg d, b, c, ne_of_at a d hat⟩
theorem N3.store (h : N3 W0 L gb W vb vo vr vd xo xr xd hs) (v : Value) : N3 W0 L gb (W.setCell ⟨gb, 0, none⟩ v) v vo vr vd xo xr xd [] := by
  refine ⟨own_setCell h.o (own_ne h.o h.box.out (by decide)) v, own_setCell h.r (own_ne h.r h.box.out (by decide)) v, own_setCell h.d (own_ne h.d h.box.out (by decide)) v, h.box.put 0 v rfl, h.ap, fun x hx => by simp at hx, ?_, h.gl, h.low.grown (grown_put W gb 0 v) h.lb (fun k hk => by injection hk with hk; rw [← hk]; exact h.gl)⟩
  have := h.lb
  simpa [World.setCell] using this
section
variable {ops : Array Oper} {o : Oper} {a : Act} {Q : Exit → Act → World → Prop} {K : Act → World → Prop}
theorem app_step (hw : Region.wanted o (yielded ops a.tmps) = true) (s x : Operand) (t e L h0 : Nat) (v : Value) (xs : List Int) (u : Int)
    (ho : o.op = .call { callee := .builtin .append, args := #[s, x], argTypes := #[t, t] }) (ht : Try.prog.underlying t = some (.slice e)) (hinfo : (Try.prog.info? e).map (fun i => (i.zero, i.size, i.bytes)) = some (some (.int .i64 0), 1, 8))
    (hs : a.eval s = v) (hx : a.eval x = .slice (some ⟨h0, 0, none⟩) 1 1) (hO : W.ownsRow L e 1 v xs.length (nums .i64 xs)) (hB : Blk W h0 (.cells #[.int .i64 u] e (0, 0))) (hL : L ≤ W.heap.size) (hl : xs.length < 1000)
    (h : ∀ v1 w1, w1.ownsRow L e 1 v1 (xs.length + 1) (nums .i64 xs ++ [.int .i64 u]) → W.grownBy w1 v.ownBlock → (v1.ownBlock = v.ownBlock ∨ v1.ownBlock = some W.heap.size) → K (a.put o.dst v1) w1) :
    if Region.wanted o (yielded ops a.tmps) = true then Oper.wp Try.prog o a W K Q else K (a.put o.dst undef) W := by
  obtain ⟨i0, hi, hzz⟩ := Option.map_eq_some_iff.1 hinfo
  simp only [Prod.mk.injEq] at hzz
  obtain ⟨hz0, hz1, hz2⟩ := hzz
  rw [if_pos hw]
  obtain ⟨v1, w1, hr, hown, hg, _, hat⟩ := run_append_own_at (P := Try.prog) W L t o.type e i0 (.int .i64 0) 1 8 ht hi hz0 hz1 hz2 rfl (by decide) v xs.length (nums .i64 xs) hO ⟨h0, 0, none⟩ 1 1 [.int .i64 u] (by simp)
    (by simpa using World.news_of_block (cs := #[.int .i64 u]) (t := e) (fr := (0, 0)) hB.out) (by simp [Value.oneCell']) (by simp only [maxLen]; omega) (by omega) hL
  unfold Oper.wp execOp
  simp only [ho, resolve, invoke, builtin, Sem.run_bind, Sem.run_pure, Result.andThen_ok, List.map_toArray, List.map_cons, List.map_nil, hs, hx, hr]
  exact h v1 w1 hown hg hat
theorem N3.step_o (h : N3 W0 L gb W vb vo vr vd xo xr xd hs) {h0 : Nat} {u : Int} (hm : (h0, u, 2) ∈ hs) (hw : Region.wanted o (yielded ops a.tmps) = true) (s x : Operand)
    (ho : o.op = .call { callee := .builtin .append, args := #[s, x], argTypes := #[22, 22] }) (he : a.eval s = vo) (hx : a.eval x = .slice (some ⟨h0, 0, none⟩) 1 1) (hl : xo.length < 1000)
    (k : ∀ v1 w1, N3 W0 L gb w1 vb v1 vr vd (xo ++ [u]) xr xd hs → K (a.put o.dst v1) w1) :
    if Region.wanted o (yielded ops a.tmps) = true then Oper.wp Try.prog o a W K Q else K (a.put o.dst undef) W :=
  app_step hw s x 22 2 L h0 vo xo u ho Try.underlying22 infoL he hx h.o (h.new _ hm).1 h.lb hl (fun v1 w1 p q r => k v1 w1 (h.grow_o p q r))
theorem N3.step_r (h : N3 W0 L gb W vb vo vr vd xo xr xd hs) {h0 : Nat} {u : Int} (hm : (h0, u, 2) ∈ hs) (hw : Region.wanted o (yielded ops a.tmps) = true) (s x : Operand)
    (ho : o.op = .call { callee := .builtin .append, args := #[s, x], argTypes := #[22, 22] }) (he : a.eval s = vr) (hx : a.eval x = .slice (some ⟨h0, 0, none⟩) 1 1) (hl : xr.length < 1000)
    (k : ∀ v1 w1, N3 W0 L gb w1 vb vo v1 vd xo (xr ++ [u]) xd hs → K (a.put o.dst v1) w1) :
    if Region.wanted o (yielded ops a.tmps) = true then Oper.wp Try.prog o a W K Q else K (a.put o.dst undef) W :=
  app_step hw s x 22 2 L h0 vr xr u ho Try.underlying22 infoL he hx h.r (h.new _ hm).1 h.lb hl (fun v1 w1 p q r => k v1 w1 (h.grow_r p q r))
theorem N3.step_d (h : N3 W0 L gb W vb vo vr vd xo xr xd hs) {h0 : Nat} {u : Int} (hm : (h0, u, 3) ∈ hs) (hw : Region.wanted o (yielded ops a.tmps) = true) (s x : Operand)
    (ho : o.op = .call { callee := .builtin .append, args := #[s, x], argTypes := #[37, 37] }) (he : a.eval s = vd) (hx : a.eval x = .slice (some ⟨h0, 0, none⟩) 1 1) (hl : xd.length < 1000)
    (k : ∀ v1 w1, N3 W0 L gb w1 vb vo vr v1 xo xr (xd ++ [u]) hs → K (a.put o.dst v1) w1) :
    if Region.wanted o (yielded ops a.tmps) = true then Oper.wp Try.prog o a W K Q else K (a.put o.dst undef) W :=
  app_step hw s x 37 3 L h0 vd xd u ho Try.underlying37 infoI he hx h.d (h.new _ hm).1 h.lb hl (fun v1 w1 p q r => k v1 w1 (h.grow_d p q r))
end
end
end Go.Proofs.Ytimdoddaaelfjaa.Ext
