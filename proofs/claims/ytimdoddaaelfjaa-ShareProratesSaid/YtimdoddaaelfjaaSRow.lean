/- Rows of places in cells, and the rests that a comparison reads. -/
import Derived.Test.YtimdoddaaelfjaaSMath
namespace Go.Proofs.Ytimdoddaaelfjaa.Ext
open Go.RowKit Go.Proofs.YtimdoddaaelfjaaW.PrintWords Go.Proofs.YtimdoddaaelfjaaW.PrintLast Go.Proofs.YtimdoddaaelfjaaW.PrintMore Go.Proofs.YtimdoddaaelfjaaW.Hand
set_option linter.unusedVariables false
/-- The block g holds, as its first n cells, the places f. -/
structure RowAt (W : World) (g n : Nat) (f : Nat → Nat) : Prop where
  out : ∃ cs, Blk W g (.cells cs 3 (0, 0)) ∧ ∀ i, i < n → cs[i]? = some (.int .i64 (f i))
theorem RowAt.cell {W : World} {g n : Nat} {f : Nat → Nat} (h : RowAt W g n f) {i : Nat} (hi : i < n) : W.cell? ⟨g, i, none⟩ = some (.int .i64 (f i)) := by
  obtain ⟨cs, hb, hc⟩ := h.out
  rw [hb.cell]; exact hc i hi
theorem RowAt.free {W : World} {g n : Nat} {f : Nat → Nat} (h : RowAt W g n f) (i : Nat) : W.frozen? ⟨g, i, none⟩ = false := by
  obtain ⟨cs, hb, hc⟩ := h.out
  exact hb.free i
theorem RowAt.lt {W : World} {g n : Nat} {f : Nat → Nat} (h : RowAt W g n f) : g < W.heap.size := by
  obtain ⟨cs, hb, hc⟩ := h.out
  exact hb.lt
theorem RowAt.drewN {W : World} {g n : Nat} {f : Nat → Nat} (h : RowAt W g n f) (q : Nat) : RowAt (W.drewN q) g n f := by
  obtain ⟨cs, hb, hc⟩ := h.out
  exact ⟨cs, hb.drewN, hc⟩
theorem RowAt.drew {W : World} {g n : Nat} {f : Nat → Nat} (h : RowAt W g n f) : RowAt W.drew g n f := by
  obtain ⟨cs, hb, hc⟩ := h.out
  exact ⟨cs, hb.drew, hc⟩
theorem RowAt.of_eq {W : World} {g n : Nat} {f f' : Nat → Nat} (h : RowAt W g n f) (e : ∀ i, i < n → f' i = f i) : RowAt W g n f' := by
  obtain ⟨cs, hb, hc⟩ := h.out
  exact ⟨cs, hb, fun i hi => by rw [e i hi]; exact hc i hi⟩
theorem RowAt.swap {W : World} {g n : Nat} {f : Nat → Nat} (h : RowAt W g n f) {i j : Nat} (hi : i < n) (hj : j < n) :
    RowAt ((W.setCell ⟨g, i, none⟩ (.int .i64 (f j))).setCell ⟨g, j, none⟩ (.int .i64 (f i))) g n (sw i j f) := by
  obtain ⟨cs, hb, hc⟩ := h.out
  refine ⟨_, (hb.put i _ rfl).put j _ rfl, fun k hk => ?_⟩
  have hs : ∀ k, k < n → k < cs.size := fun k hk => (Array.getElem?_eq_some_iff.1 (hc k hk)).1
  unfold sw
  by_cases e2 : k = j
  · subst e2
    rw [Array.getElem?_setIfInBounds_self_of_lt (by rw [Array.size_setIfInBounds]; exact hs k hk)]
    by_cases e1 : k = i
    · subst e1; simp
    · rw [if_neg e1, if_pos rfl]
  · rw [Array.getElem?_setIfInBounds_ne (by omega)]
    by_cases e1 : k = i
    · subst e1
      rw [Array.getElem?_setIfInBounds_self_of_lt (hs k hk), if_pos rfl]
    · rw [Array.getElem?_setIfInBounds_ne (by omega), if_neg e1, if_neg e2]; exact hc k hk
/-- Nothing but the block g has changed; nothing is new. -/
def Upd (g : Nat) (w w' : World) : Prop := w.grownBy w' (some g) ∧ w'.heap.size = w.heap.size
theorem Upd.refl (g : Nat) (w : World) : Upd g w w := ⟨grown_below (Below.refl _ _), rfl⟩
theorem Upd.trans {g : Nat} {a b c : World} (h : Upd g a b) (k : Upd g b c) : Upd g a c := ⟨grown_trans h.1 k.1, k.2.trans h.2⟩
theorem Upd.drewN {g : Nat} {w w' : World} (h : Upd g w w') (q : Nat) : Upd g w (w'.drewN q) := ⟨grown_trans h.1 (grown_below (pw_below_drewN (Below.refl _ _) q)), h.2⟩
theorem Upd.drew {g : Nat} {w w' : World} (h : Upd g w w') : Upd g w w'.drew := h.drewN 1
theorem Upd.put {g : Nat} {w w' : World} (h : Upd g w w') (j : Nat) (u : Value) : Upd g w (w'.setCell ⟨g, j, none⟩ u) := ⟨grown_trans h.1 (grown_put w' g j u), by rw [← h.2]; simp [World.setCell]⟩
theorem Upd.blk {g g' : Nat} {o : Obj} {w w' : World} (h : Upd g w w') (hne : g' ≠ g) (hb : Blk w g' o) : Blk w' g' o :=
  ⟨(h.1.block g' hb.lt (by simpa using hne)).trans hb.out⟩
/-- The comparison's rests: the box gb holds the row gr, its first n cells are r. -/
structure RestsAt (W : World) (gb gr n cap : Nat) (r : Nat → Int) : Prop where
  box : Blk W gb (.cells #[.slice (some ⟨gr, 0, none⟩) n cap] 22 (0, 0))
  row : ∃ cs, Blk W gr (.cells cs 2 (0, 0)) ∧ ∀ i, i < n → cs[i]? = some (.int .i64 (r i))
theorem RestsAt.upd {W W' : World} {g gb gr n cap : Nat} {r : Nat → Int} (h : RestsAt W gb gr n cap r) (k : Upd g W W') (h1 : gb ≠ g) (h2 : gr ≠ g) : RestsAt W' gb gr n cap r := by
  obtain ⟨cs, hb, hc⟩ := h.row
  exact ⟨k.blk h1 h.box, cs, k.blk h2 hb, hc⟩
theorem RestsAt.cell {W : World} {gb gr n cap : Nat} {r : Nat → Int} (h : RestsAt W gb gr n cap r) {i : Nat} (hi : i < n) : W.cell? ⟨gr, i, none⟩ = some (.int .i64 (r i)) := by
  obtain ⟨cs, hb, hc⟩ := h.row
  rw [hb.cell]; exact hc i hi
/-- What the comparison answers. -/
def cmpv (r : Nat → Int) (x y : Nat) : Int := if r y < r x then -1 else if r x < r y then 1 else 0
theorem cmpv_neg {r : Nat → Int} {x y : Nat} : cmpv r x y < 0 ↔ r y < r x := by
  unfold cmpv
  split
  · omega
  · split <;> omega
end Go.Proofs.Ytimdoddaaelfjaa.Ext
