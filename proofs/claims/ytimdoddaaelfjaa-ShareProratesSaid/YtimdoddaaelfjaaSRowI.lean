/- Rows of numbers in cells; the quotients' bounds. -/
import Derived.Test.YtimdoddaaelfjaaSSplit
import Derived.Deep.RegionHeld3
namespace Go.Proofs.Ytimdoddaaelfjaa.Ext
open Go.RowKit Go.Proofs.YtimdoddaaelfjaaW.PrintWords Go.Proofs.YtimdoddaaelfjaaW.PrintLast Go.Proofs.YtimdoddaaelfjaaW.PrintMore Go.Proofs.YtimdoddaaelfjaaW.Hand
set_option linter.unusedVariables false
def ids (n : Nat) : List Int := (List.range n).map Int.ofNat
theorem ids_succ (k : Nat) : ids (k + 1) = ids k ++ [(k : Int)] := by unfold ids; rw [List.range_succ, List.map_append]; rfl
theorem ids_len (k : Nat) : (ids k).length = k := by unfold ids; simp
theorem qL_take (t all : Int) (ws : List Int) (k : Nat) : qL t all (ws.take k) = (qL t all ws).take k := by unfold qL; rw [List.map_take]
theorem qL_len (t all : Int) (ws : List Int) : (qL t all ws).length = ws.length := by unfold qL; simp
theorem rL_len (t all : Int) (ws : List Int) : (rL t all ws).length = ws.length := by unfold rL; simp
theorem take_snoc (l : List Int) (k : Nat) (h : k < l.length) : l.take (k + 1) = l.take k ++ [l.getD k 0] := take_one l 0 k h
/-- What a round of the first loop needs. -/
structure RndI (t all : Int) (ws : List Int) (k : Nat) : Prop where
  part : money_Part.f t (ws.getD k 0) all = some (qAt t all ws k, rAt t all ws k, 0)
  sub : IntKind.i64.wrap (t - ((qL t all ws).take k).sum - qAt t all ws k) = t - ((qL t all ws).take (k + 1)).sum
theorem qAt_eq (t all : Int) (ws : List Int) (k : Nat) (h : k < ws.length) : qAt t all ws k = t * ws.getD k 0 / all := by
  unfold qAt qL
  simp [List.getD_eq_getElem?_getD, List.getElem?_eq_getElem h]
theorem rAt_eq (t all : Int) (ws : List Int) (k : Nat) (h : k < ws.length) : rAt t all ws k = t * ws.getD k 0 % all := by
  unfold rAt rL
  simp [List.getD_eq_getElem?_getD, List.getElem?_eq_getElem h]
theorem q_prefix {t : Int} {ws : List Int} (ht : 0 ≤ t) (h : ∀ w ∈ ws, 0 ≤ w) (ha : 0 < ws.sum) (k : Nat) : 0 ≤ ((qL t ws.sum ws).take k).sum ∧ ((qL t ws.sum ws).take k).sum ≤ t := by
  have hb := q_sum ht h ha
  have hq := q_nn ht ha ws h
  have := sum_take_le (qL t ws.sum ws) hq.2 k
  omega
theorem rnd_of {t : Int} {ws : List Int} (ht : 0 ≤ t) (hI : I64 t) (hI2 : ∀ w ∈ ws, I64 w) (hS : I64 ws.sum) (h : ∀ w ∈ ws, 0 ≤ w) (ha : 0 < ws.sum) (k : Nat) (hk : k < ws.length) : RndI t ws.sum ws k := by
  have hm : ws.getD k 0 ∈ ws := by rw [List.getD_eq_getElem?_getD, List.getElem?_eq_getElem hk]; exact List.getElem_mem hk
  have w0 := h _ hm
  have w1 := mem_le_sum ws h _ hm
  have q1 : t * ws.getD k 0 / ws.sum ≤ t := by
    have : t * ws.getD k 0 ≤ t * ws.sum := Int.mul_le_mul_of_nonneg_left w1 ht
    calc t * ws.getD k 0 / ws.sum ≤ t * ws.sum / ws.sum := Int.ediv_le_ediv ha this
      _ = t := Int.mul_ediv_cancel t (by omega)
  refine ⟨?_, ?_⟩
  · unfold money_Part.f
    rw [if_pos ⟨hI, hI2 _ hm, hS⟩]
    unfold part
    unfold I64 at hI
    rw [if_neg (by omega), if_pos (by omega), qAt_eq _ _ _ _ hk, rAt_eq _ _ _ _ hk]
  · have p1 := q_prefix ht h ha (k + 1)
    have e : ((qL t ws.sum ws).take (k + 1)).sum = ((qL t ws.sum ws).take k).sum + qAt t ws.sum ws k := by
      rw [take_snoc _ k (by rw [qL_len]; exact hk), List.sum_append]; simp [qAt]
    unfold I64 at hI
    rw [IntKind.wrap_i64]
    omega
/-- The block g holds, as its first n cells, the numbers v. -/
structure RowI (W : World) (g n : Nat) (v : Nat → Int) : Prop where
  out : ∃ cs, Blk W g (.cells cs 2 (0, 0)) ∧ ∀ i, i < n → cs[i]? = some (.int .i64 (v i))
theorem RowI.cell {W : World} {g n : Nat} {v : Nat → Int} (h : RowI W g n v) {i : Nat} (hi : i < n) : W.cell? ⟨g, i, none⟩ = some (.int .i64 (v i)) := by
  obtain ⟨cs, hb, hc⟩ := h.out
  rw [hb.cell]; exact hc i hi
theorem RowI.free {W : World} {g n : Nat} {v : Nat → Int} (h : RowI W g n v) (i : Nat) : W.frozen? ⟨g, i, none⟩ = false := by
  obtain ⟨cs, hb, hc⟩ := h.out
  exact hb.free i
theorem RowI.upd {W W' : World} {g g' n : Nat} {v : Nat → Int} (h : RowI W g n v) (k : Upd g' W W') (hne : g ≠ g') : RowI W' g n v := by
  obtain ⟨cs, hb, hc⟩ := h.out
  exact ⟨cs, k.blk hne hb, hc⟩
theorem RowI.drewN {W : World} {g n : Nat} {v : Nat → Int} (h : RowI W g n v) (q : Nat) : RowI (W.drewN q) g n v := by
  obtain ⟨cs, hb, hc⟩ := h.out
  exact ⟨cs, hb.drewN, hc⟩
theorem RowI.put {W : World} {g n : Nat} {v : Nat → Int} (h : RowI W g n v) {i : Nat} (hi : i < n) (u : Int) : RowI (W.setCell ⟨g, i, none⟩ (.int .i64 u)) g n (fun k => if k = i then u else v k) := by
  obtain ⟨cs, hb, hc⟩ := h.out
  refine ⟨_, hb.put i _ rfl, fun k hk => ?_⟩
  by_cases e : k = i
  · subst e
    rw [Array.getElem?_setIfInBounds_self_of_lt (Array.getElem?_eq_some_iff.1 (hc k hk)).1, if_pos rfl]
  · rw [Array.getElem?_setIfInBounds_ne (by omega), if_neg e]; exact hc k hk
theorem RowI.reads {W : World} {g n : Nat} {v : Nat → Int} (h : RowI W g n v) (l : List Int) (hn : l.length = n) (hl : ∀ i, i < n → l.getD i 0 = v i) (hm : n ≤ 9223372036854775807) : Kd.C (Kd.int .i64) W (some ⟨g, 0, none⟩) n l := by
  subst hn
  refine Kd.C_of_reads (d := (0 : Int)) (h1 := fun _ => rfl) ⟨rfl, hm, fun _ => ⟨_, rfl, fun j hj => ?_⟩⟩
  rw [add_plain, hl j hj]
  have := h.cell hj
  simpa using this
theorem RowAt.upd {W W' : World} {g g' n : Nat} {f : Nat → Nat} (h : RowAt W g n f) (k : Upd g' W W') (hne : g ≠ g') : RowAt W' g n f := by
  obtain ⟨cs, hb, hc⟩ := h.out
  exact ⟨cs, k.blk hne hb, hc⟩
theorem row_of_own {W : World} {L e n : Nat} {v : Value} {xs : List Int} (h : W.ownsRow L e 1 v n (nums .i64 xs)) (hn : 0 < n) (hx : xs.length = n) :
    ∃ g cap cur, v = .slice (some ⟨g, 0, none⟩) n cap ∧ L ≤ g ∧ n ≤ cap ∧ Blk W g (.cells cur e (0, 0)) ∧ ∀ i, i < n → cur[i]? = some (.int .i64 (xs.getD i 0)) := by
  rcases h.2 with ⟨_, e0⟩ | ⟨g, cap, cur, e0, h1, h2, h3, h4, h5, h6⟩
  · omega
  · refine ⟨g, cap, cur, e0, h1, h3, ⟨h2⟩, fun i hi => ?_⟩
    have e1 : (cur.toList.take (n * 1))[i]? = (nums .i64 xs)[i]? := by rw [h6]
    rw [List.getElem?_take_of_lt (by omega), Array.getElem?_toList] at e1
    rw [e1]
    unfold nums
    rw [List.getElem?_map, List.getElem?_eq_getElem (show i < xs.length by omega)]
    simp [List.getD_eq_getElem?_getD, List.getElem?_eq_getElem (show i < xs.length by omega)]
theorem ids_at (n i : Nat) (h : i < n) : (ids n).getD i 0 = (i : Int) := by
  unfold ids
  rw [List.getD_eq_getElem?_getD, List.getElem?_map, List.getElem?_range h]; rfl
theorem outL_at (t all : Int) (ws : List Int) (f : Nat → Nat) (i : Nat) (h : i < ws.length) : (outL t all ws f).getD i 0 = outF (qAt t all ws) f (leftOf t all ws) i := by
  unfold outL
  rw [List.getD_eq_getElem?_getD, List.getElem?_map, List.getElem?_range h]; rfl
theorem outL_len (t all : Int) (ws : List Int) (f : Nat → Nat) : (outL t all ws f).length = ws.length := by unfold outL; simp
theorem q_le_left {t : Int} {ws : List Int} (ht : 0 ≤ t) (h : ∀ w ∈ ws, 0 ≤ w) (ha : 0 < ws.sum) (i : Nat) (hi : i < ws.length) : 0 ≤ qAt t ws.sum ws i ∧ qAt t ws.sum ws i ≤ (qL t ws.sum ws).sum := by
  have hq := q_nn ht ha ws h
  have hm : qAt t ws.sum ws i ∈ qL t ws.sum ws := by
    unfold qAt
    rw [List.getD_eq_getElem?_getD, List.getElem?_eq_getElem (by rw [qL_len]; exact hi)]
    exact List.getElem_mem _
  exact ⟨hq.2 _ hm, mem_le_sum _ hq.2 _ hm⟩
end Go.Proofs.Ytimdoddaaelfjaa.Ext
