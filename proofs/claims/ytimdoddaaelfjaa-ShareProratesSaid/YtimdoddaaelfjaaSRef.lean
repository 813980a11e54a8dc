/- The contract of quitrentref12.Split: the walk. -/
import Derived.Test.YtimdoddaaelfjaaSRowI
namespace Go.Proofs.Ytimdoddaaelfjaa.Ext
open Go.RowKit Go.Proofs.YtimdoddaaelfjaaW.PrintWords Go.Proofs.YtimdoddaaelfjaaW.PrintLast Go.Proofs.YtimdoddaaelfjaaW.PrintMore Go.Proofs.YtimdoddaaelfjaaW.Hand
set_option linter.unusedVariables false
/-- Two rows that grow side by side. -/
structure N2 (W0 : World) (L : Nat) (W : World) (vo vr : Value) (xo xr : List Int) : Prop where
  o : W.ownsRow L 2 1 vo xo.length (nums .i64 xo)
  r : W.ownsRow L 2 1 vr xr.length (nums .i64 xr)
  ap : ∀ k, vo.ownBlock = some k → vr.ownBlock ≠ some k
  lb : L ≤ W.heap.size
  low : Below L W0 W
section
variable {W0 W : World} {L : Nat} {vo vr : Value} {xo xr : List Int}
theorem N2.below {W' : World} (h : N2 W0 L W vo vr xo xr) (hb : Below W.heap.size W W') : N2 W0 L W' vo vr xo xr :=
  ⟨pw_own_below h.o hb, pw_own_below h.r hb, h.ap, Nat.le_trans h.lb hb.size, h.low.trans ⟨hb.os, hb.tape, hb.output, hb.size, fun i hi => hb.block i (Nat.lt_of_lt_of_le hi h.lb)⟩⟩
theorem N2.alloc (h : N2 W0 L W vo vr xo xr) (o : Obj) : N2 W0 L (W.alloc o) vo vr xo xr := h.below (below_alloc (Below.refl _ _) _)
theorem N2.grow_o (h : N2 W0 L W vo vr xo xr) {u : Int} {v1 : Value} {w1 : World} (ho : w1.ownsRow L 2 1 v1 (xo.length + 1) (nums .i64 xo ++ [.int .i64 u])) (hg : W.grownBy w1 vo.ownBlock)
    (hat : v1.ownBlock = vo.ownBlock ∨ v1.ownBlock = some W.heap.size) : N2 W0 L w1 v1 vr (xo ++ [u]) xr := by
  refine ⟨?_, own_other h.r hg (ap_of h.ap), fun k hk e => ?_, Nat.le_trans h.lb hg.size, h.low.grown hg h.lb (own_base h.o)⟩
  · rw [List.length_append]; unfold nums; rw [List.map_append]; exact ho
  · rcases hat with e2 | e2
    · rw [e2] at hk; exact h.ap k hk e
    · rw [e2] at hk; injection hk with hk; exact size_ne h.r (by rw [e, hk])
theorem N2.grow_r (h : N2 W0 L W vo vr xo xr) {u : Int} {v1 : Value} {w1 : World} (ho : w1.ownsRow L 2 1 v1 (xr.length + 1) (nums .i64 xr ++ [.int .i64 u])) (hg : W.grownBy w1 vr.ownBlock)
    (hat : v1.ownBlock = vr.ownBlock ∨ v1.ownBlock = some W.heap.size) : N2 W0 L w1 vo v1 xo (xr ++ [u]) := by
  refine ⟨own_other h.o hg (ap_of fun k hk e => h.ap k e hk), ?_, fun k hk e => ?_, Nat.le_trans h.lb hg.size, h.low.grown hg h.lb (own_base h.r)⟩
  · rw [List.length_append]; unfold nums; rw [List.map_append]; exact ho
  · rcases hat with e2 | e2
    · rw [e2] at e; exact h.ap k hk e
    · rw [e2] at e; injection e with e; exact size_ne h.o (by rw [hk, e])
section
variable {ops : Array Oper} {rest : List Oper} {o : Oper} {a : Act} {Q : Exit → Act → World → Prop}
theorem app_list (hgd : o.guard = none) (s x : Operand) (L : Nat) (v : Value) (xs : List Int) (u : Int)
    (ho : o.op = .call { callee := .builtin .append, args := #[s, x], argTypes := #[22, 22] })
    (hs : a.eval s = v) (hx : a.eval x = .slice (some ⟨W.heap.size, 0, none⟩) 1 1) (hO : W.ownsRow L 2 1 v xs.length (nums .i64 xs)) (hL : L ≤ W.heap.size) (hl : xs.length < 1000)
    (h : ∀ v1 w1, w1.ownsRow L 2 1 v1 (xs.length + 1) (nums .i64 xs ++ [.int .i64 u]) → (W.alloc (.cells #[.int .i64 u] 2)).grownBy w1 v.ownBlock → (v1.ownBlock = v.ownBlock ∨ v1.ownBlock = some (W.alloc (.cells #[.int .i64 u] 2)).heap.size) → wpList Try.prog ops Q rest (a.put o.dst v1) w1) :
    wpList Try.prog ops Q (o :: rest) a (W.alloc (.cells #[.int .i64 u] 2)) := by
  obtain ⟨i0, hi, hzz⟩ := Option.map_eq_some_iff.1 infoL
  simp only [Prod.mk.injEq] at hzz
  obtain ⟨hz0, hz1, hz2⟩ := hzz
  refine wpList_append_own_at (W.alloc (.cells #[.int .i64 u] 2)) hgd s x 22 ho L 2 i0 (.int .i64 0) 1 8 Try.underlying22 hi hz0 hz1 hz2 rfl (by decide) v xs.length (nums .i64 xs) hs (hO.alloc _) ⟨W.heap.size, 0, none⟩ 1 1 [.int .i64 u] hx (by simp)
    (by simpa using World.news_of_block (cs := #[.int .i64 u]) (t := 2) (fr := (0, 0)) (heap_alloc_new W (.cells #[.int .i64 u] 2))) (by simp [Value.oneCell']) (by simp only [maxLen]; omega) (by omega) (by rw [size_alloc]; omega) ?_
  intro v1 w1 hown hg _ hat
  exact h v1 w1 hown hg hat
theorem N2.app_o (h : N2 W0 L W vo vr xo xr) (u : Int) (hgd : o.guard = none) (s x : Operand)
    (ho : o.op = .call { callee := .builtin .append, args := #[s, x], argTypes := #[22, 22] }) (he : a.eval s = vo) (hx : a.eval x = .slice (some ⟨W.heap.size, 0, none⟩) 1 1) (hl : xo.length < 1000)
    (k : ∀ v1 w1, N2 W0 L w1 v1 vr (xo ++ [u]) xr → wpList Try.prog ops Q rest (a.put o.dst v1) w1) : wpList Try.prog ops Q (o :: rest) a (W.alloc (.cells #[.int .i64 u] 2)) :=
  app_list hgd s x L vo xo u ho he hx h.o h.lb hl (fun v1 w1 p q r => k v1 w1 ((h.alloc _).grow_o p q r))
theorem N2.app_r (h : N2 W0 L W vo vr xo xr) (u : Int) (hgd : o.guard = none) (s x : Operand)
    (ho : o.op = .call { callee := .builtin .append, args := #[s, x], argTypes := #[22, 22] }) (he : a.eval s = vr) (hx : a.eval x = .slice (some ⟨W.heap.size, 0, none⟩) 1 1) (hl : xr.length < 1000)
    (k : ∀ v1 w1, N2 W0 L w1 vo v1 xo (xr ++ [u]) → wpList Try.prog ops Q rest (a.put o.dst v1) w1) : wpList Try.prog ops Q (o :: rest) a (W.alloc (.cells #[.int .i64 u] 2)) :=
  app_list hgd s x L vr xr u ho he hx h.r h.lb hl (fun v1 w1 p q r => k v1 w1 ((h.alloc _).grow_r p q r))
end
end
def anyPos (l : List Int) : Bool := l.any fun x => decide (0 < x)
theorem anyPos_take {l : List Int} {j : Nat} (h : j < l.length) : anyPos (l.take (j + 1)) = (anyPos (l.take j) || decide (0 < l.getD j 0)) := by
  unfold anyPos; rw [take_one l 0 j h, List.any_append]; simp
theorem anyPos_sum {l : List Int} (h : ∀ w ∈ l, 0 ≤ w) : anyPos l = decide (0 < l.sum) := by
  unfold anyPos
  induction l with
  | nil => rfl
  | cons x l ih =>
    have h1 := h x (by simp)
    have h2 := sum_take_le l (fun w hw => h w (by simp [hw])) 0
    simp at h2
    rw [List.any_cons, ih (fun w hw => h w (by simp [hw])), List.sum_cons, Bool.eq_iff_iff]
    simp
    omega
def restF (r : Nat → Int) (f : Nat → Nat) (m i : Nat) : Int := if hit f m i then -1 else r i
theorem restF_zero (r : Nat → Int) (f : Nat → Nat) : restF r f 0 = r := by funext i; unfold restF; rw [hit_zero]; simp
theorem restF_step (r : Nat → Int) (f : Nat → Nat) (m : Nat) : (fun k => if k = f m then (-1 : Int) else restF r f m k) = restF r f (m + 1) := by
  funext k
  unfold restF
  rw [hit_succ]
  by_cases e : k = f m
  · subst e; simp
  · rw [if_neg e]
    have : (f m == k) = false := by rw [beq_eq_false_iff_ne]; exact fun x => e x.symm
    rw [this, Bool.or_false]
theorem r_at_nn {t all : Int} (ha : 0 < all) (ws : List Int) (i : Nat) (h : i < ws.length) : 0 ≤ rAt t all ws i := by
  rw [rAt_eq _ _ _ _ h]; exact Int.emod_nonneg _ (by omega)
set_option maxRecDepth 100000 in
set_option maxHeartbeats 12800000 in
theorem ref_neg {n c : Nat} (t : Int) (A : Option Addr) (ws : List Int) (hn : ws.length = n) (w : World) (hr : Kd.C (Kd.int .i64) w A n ws) (hc : n ≤ c) (ht : I64 t) (hw : ∀ x ∈ ws, I64 x) (hm : n ≤ 9223372036854775807) (he : 100 < n ∨ t < 0 ∨ ∃ x ∈ ws, x < 0) :
    Calls Try.prog 9 #[.int .i64 t, .slice A n c] w fun e w' => SplitPost t ws w e w' := by
  subst hn
  have HR := Aside0.mk hr
  have HSP := Aside0.mk (show SplitIs t ws [] 1 by unfold SplitIs; rw [if_pos he]; exact ⟨rfl, rfl⟩)
  by_cases c1 : t < 0
  · clear hr hw he ht
    go_enter Try.func9, Try.ntmps9
    go_wp2_with fail
    go_ret2
    exact SplitPost.err 1 HSP.out (Below.refl _ _)
  by_cases c2 : 100 < ws.length
  · have z : (100 : Int) < (ws.length : Int) := by omega
    clear hr hw he ht
    go_enter Try.func9, Try.ntmps9
    go_wp2_with fail
    go_ret2
    exact SplitPost.err 1 HSP.out (Below.refl _ _)
  have z : ¬ (100 : Int) < (ws.length : Int) := by omega
  have HNEG : Aside0 (∃ x ∈ ws, x < 0) := ⟨by rcases he with h | h | h; exact (c2 h).elim; exact (c1 h).elim; exact h⟩
  clear hr hw he ht
  go_enter Try.func9, Try.ntmps9
  go_wp2
  go_loopw [6, 7] (fun vs vi wr => ∃ j : Nat, j ≤ ws.length ∧ vi = .int .i64 j ∧ vs = .bool (anyPos (ws.take j)) ∧ Aside0 (∀ i, i < j → 0 ≤ ws.getD i 0) ∧ w = wr) (fun _ i _ => ws.length - (intOf i).toNat)
  case atStart => exact ⟨0, Nat.zero_le _, rfl, rfl, ⟨fun i hi => by omega⟩, rfl⟩
  case round =>
    obtain ⟨j, hj, rfl, rfl, HJ, rfl⟩ := hrel
    by_cases hlt : j < ws.length
    · have hlz : (j : Int) < (ws.length : Int) := by omega
      obtain ⟨ad, e1, hx⟩ := Kd.at_int HR.out j (by omega) (by omega)
      cases e1
      simp only [Int.toNat_natCast] at hx
      obtain ⟨x, hx0⟩ : ∃ x, x = ws.getD j 0 := ⟨_, rfl⟩
      have hx1 : rd ws (j : Int) = x := by rw [hx0]; rfl
      rw [hx1] at hx
      have hap := anyPos_take hlt
      rw [← hx0] at hap
      have HAP := Aside0.mk hap
      have HX0 := Aside0.mk hx0
      clear hap hx1 hx0
      generalize anyPos (ws.take j) = b at HAP ⊢
      by_cases hneg : x < 0
      · go_wp2_with fail
        go_ret2
        exact SplitPost.err 1 HSP.out (Below.refl _ _)
      · have JX : ∀ i, i < j + 1 → 0 ≤ ws.getD i 0 := fun i hi => by
          by_cases e : i = j
          · subst e; rw [← HX0.out]; omega
          · exact HJ.out i (by omega)
        have HJX := Aside0.mk JX
        clear JX
        cases b with
        | true =>
          go_wp2_with fail
          go_roundw
          case measure => simp [intOf]; omega
          case rel => exact ⟨j + 1, by omega, by go_num, by rw [HAP.out]; simp <;> omega, ⟨HJX.out⟩, by trivial⟩
        | false =>
          by_cases hp : 0 < x
          · have hpz : decide (0 < x) = true := decide_eq_true hp
            go_wp2_with fail
            go_roundw
            case measure => simp [intOf]; omega
            case rel => exact ⟨j + 1, by omega, by go_num, by rw [HAP.out]; simp <;> omega, ⟨HJX.out⟩, by trivial⟩
          · have hpz : decide (0 < x) = false := decide_eq_false hp
            go_wp2_with fail
            go_roundw
            case measure => simp [intOf]; omega
            case rel => exact ⟨j + 1, by omega, by go_num, by rw [HAP.out]; simp <;> omega, ⟨HJX.out⟩, by trivial⟩
    · exfalso
      obtain ⟨x, hx, e⟩ := HNEG.out
      obtain ⟨i, hi, rfl⟩ := List.getElem_of_mem hx
      have := HJ.out i (by omega)
      rw [List.getD_eq_getElem?_getD, List.getElem?_eq_getElem hi] at this
      simp at this
      omega
set_option maxRecDepth 100000 in
set_option maxHeartbeats 12800000 in
theorem ref_over {n c : Nat} (t : Int) (A : Option Addr) (ws : List Int) (hn : ws.length = n) (w : World) (hr : Kd.C (Kd.int .i64) w A n ws) (hc : n ≤ c) (ht : I64 t) (hw : ∀ x ∈ ws, I64 x) (hm : n ≤ 9223372036854775807) (ht0 : 0 ≤ t) (h1 : n ≤ 100) (hnn : ∀ x ∈ ws, 0 ≤ x) (hs : ¬ I64 ws.sum) :
    Calls Try.prog 9 #[.int .i64 t, .slice A n c] w fun e w' => SplitPost t ws w e w' := by
  subst hn
  have HR := Aside0.mk hr
  have HW := Aside0.mk hw
  have HNN := Aside0.mk hnn
  have z : ¬ (100 : Int) < (ws.length : Int) := by omega
  have z2 : ¬ t < 0 := by omega
  have k3 : Aside0 (∀ r1 r2 w1, Below w.heap.size w w1 → small ws.sum = (r1, r2) → Calls Try.prog 19 #[.slice A ws.length c] w1 fun e w' => e = .returned (.tuple #[.int .i64 r1, .int .i64 r2]) ∧ Below w1.heap.size w1 w') :=
    ⟨fun r1 r2 w1 hb hs => quitrentref10_Sum.calls A c ws r1 r2 w1 (Kd.C_below HR.out hb) hc (by unfold quitrentref10_Sum.f money_Sum.f; rw [if_pos ⟨HW.out, hm⟩, hs])⟩
  have k4 := Aside0.mk (k3.out 0 30 w (Below.refl _ _) (by unfold small; rw [if_neg hs]))
  have HSP := Aside0.mk (show SplitIs t ws [] 30 by unfold SplitIs; rw [if_neg (by rintro (h | h | ⟨x, hx, h⟩); omega; omega; have := HNN.out x hx; omega), if_pos hs]; exact ⟨rfl, rfl⟩)
  clear hr hw hs hnn ht k3
  go_enter Try.func9, Try.ntmps9
  go_wp2
  go_loopw [6, 7] (fun vs vi wr => ∃ j : Nat, j ≤ ws.length ∧ vi = .int .i64 j ∧ vs = .bool (anyPos (ws.take j)) ∧ Aside0 (True) ∧ w = wr) (fun _ i _ => ws.length - (intOf i).toNat)
  case atStart => exact ⟨0, Nat.zero_le _, rfl, rfl, ⟨trivial⟩, rfl⟩
  case round =>
    obtain ⟨j, hj, rfl, rfl, HJ, rfl⟩ := hrel
    by_cases hlt : j < ws.length
    · have hlz : (j : Int) < (ws.length : Int) := by omega
      obtain ⟨ad, e1, hx⟩ := Kd.at_int HR.out j (by omega) (by omega)
      cases e1
      simp only [Int.toNat_natCast] at hx
      obtain ⟨x, hx0⟩ : ∃ x, x = ws.getD j 0 := ⟨_, rfl⟩
      have hx1 : rd ws (j : Int) = x := by rw [hx0]; rfl
      rw [hx1] at hx
      have hap := anyPos_take hlt
      rw [← hx0] at hap
      have HAP := Aside0.mk hap
      have HX0 := Aside0.mk hx0
      clear hap hx1 hx0
      generalize anyPos (ws.take j) = b at HAP ⊢
      have hneg : ¬ x < 0 := by
        have : x ∈ ws := by rw [HX0.out, List.getD_eq_getElem?_getD, List.getElem?_eq_getElem hlt]; exact List.getElem_mem hlt
        have := HNN.out x this
        omega
      cases b with
      | true =>
        go_wp2_with fail
        go_roundw
        case measure => simp [intOf]; omega
        case rel => exact ⟨j + 1, by omega, by go_num, by rw [HAP.out]; simp <;> omega, ⟨trivial⟩, by trivial⟩
      | false =>
        by_cases hp : 0 < x
        · have hpz : decide (0 < x) = true := decide_eq_true hp
          go_wp2_with fail
          go_roundw
          case measure => simp [intOf]; omega
          case rel => exact ⟨j + 1, by omega, by go_num, by rw [HAP.out]; simp <;> omega, ⟨trivial⟩, by trivial⟩
        · have hpz : decide (0 < x) = false := decide_eq_false hp
          go_wp2_with fail
          go_roundw
          case measure => simp [intOf]; omega
          case rel => exact ⟨j + 1, by omega, by go_num, by rw [HAP.out]; simp <;> omega, ⟨trivial⟩, by trivial⟩
    · obtain rfl : j = ws.length := by omega
      have hlz : ¬ ((ws.length : Int)) < (ws.length : Int) := by omega
      rw [List.take_length, anyPos_sum HNN.out]
      go_wp2_with (go_at_call 19; refine k4.out.mono ?_; rintro e w3 ⟨rfl, hb⟩; have HB3 := Aside0.mk hb; clear hb k4)
      go_ret2
      exact SplitPost.err 30 HSP.out HB3.out
set_option maxRecDepth 100000 in
set_option maxHeartbeats 12800000 in
theorem ref_none {n c : Nat} (t : Int) (A : Option Addr) (ws : List Int) (hn : ws.length = n) (w : World) (hr : Kd.C (Kd.int .i64) w A n ws) (hc : n ≤ c) (ht : I64 t) (hw : ∀ x ∈ ws, I64 x) (hm : n ≤ 9223372036854775807) (ht0 : 0 ≤ t) (h1 : n ≤ 100) (hnn : ∀ x ∈ ws, 0 ≤ x) (hs : ws.sum = 0) :
    Calls Try.prog 9 #[.int .i64 t, .slice A n c] w fun e w' => SplitPost t ws w e w' := by
  subst hn
  have HR := Aside0.mk hr
  have HW := Aside0.mk hw
  have HNN := Aside0.mk hnn
  have z : ¬ (100 : Int) < (ws.length : Int) := by omega
  have z2 : ¬ t < 0 := by omega
  have k3 : Aside0 (∀ r1 r2 w1, Below w.heap.size w w1 → small ws.sum = (r1, r2) → Calls Try.prog 19 #[.slice A ws.length c] w1 fun e w' => e = .returned (.tuple #[.int .i64 r1, .int .i64 r2]) ∧ Below w1.heap.size w1 w') :=
    ⟨fun r1 r2 w1 hb hs => quitrentref10_Sum.calls A c ws r1 r2 w1 (Kd.C_below HR.out hb) hc (by unfold quitrentref10_Sum.f money_Sum.f; rw [if_pos ⟨HW.out, hm⟩, hs])⟩
  have k4 := Aside0.mk (k3.out 0 0 w (Below.refl _ _) (by unfold small; rw [if_pos (show I64 ws.sum by rw [hs]; unfold I64; omega), hs]))
  have HSP := Aside0.mk (show SplitIs t ws [] 1 by unfold SplitIs; rw [if_neg (by rintro (h | h | ⟨x, hx, h⟩); omega; omega; have := HNN.out x hx; omega), if_neg (fun h => h (by rw [hs]; unfold I64; omega)), if_pos hs]; exact ⟨rfl, rfl⟩)
  have hz : decide (0 < ws.sum) = false := decide_eq_false (by omega)
  have HZ := Aside0.mk hz
  clear hz
  clear hr hw hs hnn ht k3
  go_enter Try.func9, Try.ntmps9
  go_wp2
  go_loopw [6, 7] (fun vs vi wr => ∃ j : Nat, j ≤ ws.length ∧ vi = .int .i64 j ∧ vs = .bool (anyPos (ws.take j)) ∧ Aside0 (True) ∧ w = wr) (fun _ i _ => ws.length - (intOf i).toNat)
  case atStart => exact ⟨0, Nat.zero_le _, rfl, rfl, ⟨trivial⟩, rfl⟩
  case round =>
    obtain ⟨j, hj, rfl, rfl, HJ, rfl⟩ := hrel
    by_cases hlt : j < ws.length
    · have hlz : (j : Int) < (ws.length : Int) := by omega
      obtain ⟨ad, e1, hx⟩ := Kd.at_int HR.out j (by omega) (by omega)
      cases e1
      simp only [Int.toNat_natCast] at hx
      obtain ⟨x, hx0⟩ : ∃ x, x = ws.getD j 0 := ⟨_, rfl⟩
      have hx1 : rd ws (j : Int) = x := by rw [hx0]; rfl
      rw [hx1] at hx
      have hap := anyPos_take hlt
      rw [← hx0] at hap
      have HAP := Aside0.mk hap
      have HX0 := Aside0.mk hx0
      clear hap hx1 hx0
      generalize anyPos (ws.take j) = b at HAP ⊢
      have hneg : ¬ x < 0 := by
        have : x ∈ ws := by rw [HX0.out, List.getD_eq_getElem?_getD, List.getElem?_eq_getElem hlt]; exact List.getElem_mem hlt
        have := HNN.out x this
        omega
      cases b with
      | true =>
        go_wp2_with fail
        go_roundw
        case measure => simp [intOf]; omega
        case rel => exact ⟨j + 1, by omega, by go_num, by rw [HAP.out]; simp <;> omega, ⟨trivial⟩, by trivial⟩
      | false =>
        by_cases hp : 0 < x
        · have hpz : decide (0 < x) = true := decide_eq_true hp
          go_wp2_with fail
          go_roundw
          case measure => simp [intOf]; omega
          case rel => exact ⟨j + 1, by omega, by go_num, by rw [HAP.out]; simp <;> omega, ⟨trivial⟩, by trivial⟩
        · have hpz : decide (0 < x) = false := decide_eq_false hp
          go_wp2_with fail
          go_roundw
          case measure => simp [intOf]; omega
          case rel => exact ⟨j + 1, by omega, by go_num, by rw [HAP.out]; simp <;> omega, ⟨trivial⟩, by trivial⟩
    · obtain rfl : j = ws.length := by omega
      have hlz : ¬ ((ws.length : Int)) < (ws.length : Int) := by omega
      rw [List.take_length, anyPos_sum HNN.out]
      rw [HZ.out]
      go_wp2_with (go_at_call 19; refine k4.out.mono ?_; rintro e w3 ⟨rfl, hb⟩; have HB3 := Aside0.mk hb; clear hb k4)
      go_ret2
      exact SplitPost.err 1 HSP.out HB3.out
set_option maxRecDepth 100000 in
set_option maxHeartbeats 12800000 in
theorem ref_ok {n c : Nat} (t : Int) (A : Option Addr) (ws : List Int) (hn : ws.length = n) (w : World) (hr : Kd.C (Kd.int .i64) w A n ws) (hc : n ≤ c) (ht : I64 t) (hw : ∀ x ∈ ws, I64 x) (hm : n ≤ 9223372036854775807) (ht0 : 0 ≤ t) (h1 : n ≤ 100) (hnn : ∀ x ∈ ws, 0 ≤ x) (hS : I64 ws.sum) (hs0 : 0 < ws.sum) (f : Nat → Nat) (hf : Ord (rAt t ws.sum ws) ws.length f) :
    Calls Try.prog 9 #[.int .i64 t, .slice A n c] w fun e w' => SplitPost t ws w e w' := by
  subst hn
  have HR := Aside0.mk hr
  have HW := Aside0.mk hw
  have HNN := Aside0.mk hnn
  have z : ¬ (100 : Int) < (ws.length : Int) := by omega
  have z2 : ¬ t < 0 := by omega
  have k3 : Aside0 (∀ r1 r2 w1, Below w.heap.size w w1 → small ws.sum = (r1, r2) → Calls Try.prog 19 #[.slice A ws.length c] w1 fun e w' => e = .returned (.tuple #[.int .i64 r1, .int .i64 r2]) ∧ Below w1.heap.size w1 w') :=
    ⟨fun r1 r2 w1 hb hs => quitrentref10_Sum.calls A c ws r1 r2 w1 (Kd.C_below HR.out hb) hc (by unfold quitrentref10_Sum.f money_Sum.f; rw [if_pos ⟨HW.out, hm⟩, hs])⟩
  have k4 := Aside0.mk (k3.out ws.sum 0 w (Below.refl _ _) (by unfold small; rw [if_pos hS]))
  have RND := Aside0.mk (fun k hk => rnd_of ht0 ht hw hS hnn hs0 k hk)
  have H2 := Aside0.mk ht
  have H4 := Aside0.mk hS
  have H5 := Aside0.mk hs0
  have HO := Aside0.mk hf
  have HZ := Aside0.mk (decide_eq_true hs0)
  obtain ⟨all, hall⟩ : ∃ all, all = ws.sum := ⟨_, rfl⟩
  rw [← hall] at RND k4 HO
  have HALL := Aside0.mk hall
  clear hr hw hnn ht hS hs0 hall k3 hf
  go_enter Try.func9, Try.ntmps9
  go_wp2
  go_loopw [6, 7] (fun vs vi wr => ∃ j : Nat, j ≤ ws.length ∧ vi = .int .i64 j ∧ vs = .bool (anyPos (ws.take j)) ∧ Aside0 (True) ∧ w = wr) (fun _ i _ => ws.length - (intOf i).toNat)
  case atStart => exact ⟨0, Nat.zero_le _, rfl, rfl, ⟨trivial⟩, rfl⟩
  case round =>
    obtain ⟨j, hj, rfl, rfl, HJ, rfl⟩ := hrel
    by_cases hlt : j < ws.length
    · have hlz : (j : Int) < (ws.length : Int) := by omega
      obtain ⟨ad, e1, hx⟩ := Kd.at_int HR.out j (by omega) (by omega)
      cases e1
      simp only [Int.toNat_natCast] at hx
      obtain ⟨x, hx0⟩ : ∃ x, x = ws.getD j 0 := ⟨_, rfl⟩
      have hx1 : rd ws (j : Int) = x := by rw [hx0]; rfl
      rw [hx1] at hx
      have hap := anyPos_take hlt
      rw [← hx0] at hap
      have HAP := Aside0.mk hap
      have HX0 := Aside0.mk hx0
      clear hap hx1 hx0
      generalize anyPos (ws.take j) = b at HAP ⊢
      have hneg : ¬ x < 0 := by
        have : x ∈ ws := by rw [HX0.out, List.getD_eq_getElem?_getD, List.getElem?_eq_getElem hlt]; exact List.getElem_mem hlt
        have := HNN.out x this
        omega
      cases b with
      | true =>
        go_wp2_with fail
        go_roundw
        case measure => simp [intOf]; omega
        case rel => exact ⟨j + 1, by omega, by go_num, by rw [HAP.out]; simp <;> omega, ⟨trivial⟩, by trivial⟩
      | false =>
        by_cases hp : 0 < x
        · have hpz : decide (0 < x) = true := decide_eq_true hp
          go_wp2_with fail
          go_roundw
          case measure => simp [intOf]; omega
          case rel => exact ⟨j + 1, by omega, by go_num, by rw [HAP.out]; simp <;> omega, ⟨trivial⟩, by trivial⟩
        · have hpz : decide (0 < x) = false := decide_eq_false hp
          go_wp2_with fail
          go_roundw
          case measure => simp [intOf]; omega
          case rel => exact ⟨j + 1, by omega, by go_num, by rw [HAP.out]; simp <;> omega, ⟨trivial⟩, by trivial⟩
    · obtain rfl : j = ws.length := by omega
      have hlz : ¬ ((ws.length : Int)) < (ws.length : Int) := by omega
      rw [List.take_length, anyPos_sum HNN.out]
      rw [HZ.out]
      go_wp2_with (go_at_call 19; refine k4.out.mono ?_; rintro e w3 ⟨rfl, hb⟩; have HB3 := Aside0.mk hb; clear hb k4)
      go_loopw [10, 11, 12, 13] (fun vo vr vl vi wr => ∃ k : Nat, k ≤ ws.length ∧ vi = .int .i64 k ∧ vl = .int .i64 (t - ((qL t all ws).take k).sum) ∧ Aside0 (N2 w3 w3.heap.size wr vo vr ((qL t all ws).take k) ((rL t all ws).take k))) (fun _ _ _ i _ => ws.length - (intOf i).toNat)
      case atStart => exact ⟨0, Nat.zero_le _, rfl, by simp, ⟨own_nil _ _ _ _, own_nil _ _ _ _, fun k hk => by simp [Value.ownBlock] at hk, Nat.le_refl _, Below.refl _ _⟩⟩
      case round =>
        obtain ⟨k, hk, rfl, rfl, HN⟩ := hrel
        by_cases hlt : k < ws.length
        · have hlz : (k : Int) < (ws.length : Int) := by omega
          obtain ⟨ad, e1, hx⟩ := Kd.at_int (Kd.C_below HR.out (below_step' HB3.out HN.out.low)) k (by omega) (by omega)
          cases e1
          simp only [Int.toNat_natCast] at hx
          obtain ⟨q, hq⟩ : ∃ q, q = qAt t all ws k := ⟨_, rfl⟩
          obtain ⟨r, hrr⟩ : ∃ r, r = rAt t all ws k := ⟨_, rfl⟩
          obtain ⟨lv, hlv⟩ : ∃ lv, lv = t - ((qL t all ws).take k).sum := ⟨_, rfl⟩
          obtain ⟨lv2, hlv2⟩ : ∃ lv2, lv2 = t - ((qL t all ws).take (k + 1)).sum := ⟨_, rfl⟩
          obtain ⟨x, hx0⟩ : ∃ x, x = ws.getD k 0 := ⟨_, rfl⟩
          have hx1 : rd ws (k : Int) = x := by rw [hx0]; rfl
          rw [hx1] at hx
          obtain ⟨p1, p2⟩ := RND.out k hlt
          rw [← hq, ← hlv, ← hlv2] at p2
          rw [← hq, ← hrr, ← hx0] at p1
          have kp := Aside0.mk (fun w => quitrentref10_Part.calls t x all q r 0 w p1)
          have HQ := Aside0.mk hq
          have HRR := Aside0.mk hrr
          have HL2 := Aside0.mk hlv2
          have hlo : ((qL t all ws).take k).length < 1000 := by rw [List.length_take, qL_len]; omega
          have hlr : ((rL t all ws).take k).length < 1000 := by rw [List.length_take, rL_len]; omega
          rw [← hlv]
          clear hq hrr hlv hlv2 hx0 hx1 p1
          go_wp2_with (first | (go_at_call 20; refine (kp.out _).mono ?_; rintro e w4 ⟨rfl, hb⟩; have HN4 := Aside0.mk (HN.out.below hb); clear hb) | (at_builtin; refine HN4.out.app_o q rfl (.tmp 73) (.tmp 75) rfl rfl rfl hlo ?_; intro vo1 w5 h5; have HN5 := Aside0.mk h5; clear h5) | (at_builtin; refine HN5.out.app_r r rfl (.tmp 77) (.tmp 79) rfl rfl rfl hlr ?_; intro vr1 w6 h6; have HN6 := Aside0.mk h6; clear h6))
          go_roundw
          case measure => simp [intOf]; omega
          case rel =>
            refine ⟨k + 1, by omega, by go_num, by rw [HL2.out], ⟨?_⟩⟩
            have := HN6.out
            rw [HQ.out, HRR.out] at this
            rw [take_snoc _ k (by rw [qL_len]; exact hlt), take_snoc _ k (by rw [rL_len]; exact hlt)]
            exact this
        · obtain rfl : k = ws.length := by omega
          have hall := HALL.out
          have hpos : 0 < ws.length := by
            have := H5.out
            cases ws with
            | nil => simp at this
            | cons x l => simp
          have hq := q_sum ht0 HNN.out H5.out
          rw [← hall] at hq
          have hn := HN.out
          have eQ : (qL t all ws).take ws.length = qL t all ws := by rw [← qL_len t all ws]; exact List.take_length
          have eR : (rL t all ws).take ws.length = rL t all ws := by rw [← rL_len t all ws]; exact List.take_length
          rw [eQ, eR] at hn
          rw [eQ]
          have o1 := hn.o
          have r1 := hn.r
          rw [qL_len] at o1
          rw [rL_len] at r1
          obtain ⟨go, co, cuo, rfl, lo1, lo2, lo3, lo4⟩ := row_of_own o1 hpos (qL_len _ _ _)
          obtain ⟨gr, cr, cur, rfl, lr1, lr2, lr3, lr4⟩ := row_of_own r1 hpos (rL_len _ _ _)
          have ne1 : go ≠ gr := fun e => hn.ap go rfl (by rw [e]; rfl)
          have HRI := Aside0.mk (show RowI wr go ws.length (qAt t all ws) from ⟨cuo, lo3, lo4⟩)
          have HRJ := Aside0.mk (show RowI wr gr ws.length (rAt t all ws) from ⟨cur, lr3, lr4⟩)
          have HLOW := Aside0.mk (below_step' HB3.out hn.low)
          have hL : w.heap.size ≤ w3.heap.size := HB3.out.size
          have hgo : w.heap.size ≤ go := by omega
          have hgr : w.heap.size ≤ gr := by omega
          obtain ⟨m, hm2⟩ : ∃ m, m = leftOf t all ws := ⟨_, rfl⟩
          have hmi : t - (qL t all ws).sum = (m : Int) := by rw [hm2]; unfold leftOf; omega
          have hml : m < ws.length := by omega
          have HM := Aside0.mk hm2
          have HMI := Aside0.mk hmi
          have NE1 := Aside0.mk ne1
          rw [hmi]
          have hs0 := H5.out
          rw [← hall] at hs0
          have RNN := Aside0.mk (fun i hi => r_at_nn (t := t) hs0 ws i hi)
          clear hn o1 r1 lo1 lo2 lo3 lo4 lr1 lr2 lr3 lr4 ne1 hm2 hmi hall hq eQ eR HN hs0
          go_wp2
          go_loopw [12] (fun vl wx => ∃ l j : Nat, j + l = m ∧ vl = .int .i64 l ∧ Aside0 (Below w.heap.size w wx) ∧ Aside0 (RowI wx go ws.length (outF (qAt t all ws) f j)) ∧ Aside0 (RowI wx gr ws.length (restF (rAt t all ws) f j))) (fun i _ => (intOf i).toNat)
          case atStart => exact ⟨m, 0, by omega, rfl, HLOW, ⟨by rw [outF_zero]; exact HRI.out⟩, ⟨by rw [restF_zero]; exact HRJ.out⟩⟩
          case round =>
            obtain ⟨l, j, hjl, rfl, HBX, HRX, HRY⟩ := hrel
            by_cases hl0 : 0 < l
            · have hlz : (0 : Int) < (l : Int) := by omega
              have hjm : j < ws.length := by omega
              go_wp2
              go_loopw [17, 18] (fun vb vi wy => ∃ (i q : Nat) (best : Int), i ≤ ws.length ∧ vi = .int .i64 i ∧ vb = .int .i64 best ∧ Aside0 (GB (rAt t all ws) f j i best) ∧ Aside0 (wy = wr.drewN q)) (fun _ i _ => ws.length - (intOf i).toNat)
              case atStart => exact ⟨0, 0, -1, Nat.zero_le _, rfl, rfl, ⟨GB.begin⟩, ⟨rfl⟩⟩
              case round =>
                rename_i wx _
                obtain ⟨i, q, best, hi, rfl, rfl, HG, HWY⟩ := hrel
                by_cases hil : i < ws.length
                · have hiz : (i : Int) < (ws.length : Int) := by omega
                  have HRZ := Aside0.mk (show RowI wr gr ws.length (restF (rAt t all ws) f j) by rw [HWY.out]; exact HRY.out.drewN q)
                  have c1 := HRZ.out.cell hil
                  have hrn := RNN.out i hil
                  obtain ⟨ri, hri⟩ : ∃ ri, ri = rAt t all ws i := ⟨_, rfl⟩
                  rw [← hri] at hrn
                  cases hhit : hit f j i with
                  | true =>
                    have e1 : restF (rAt t all ws) f j i = -1 := by unfold restF; rw [hhit]; rfl
                    rw [e1] at c1
                    have HT := Aside0.mk hhit
                    clear hhit e1 hri hrn
                    go_wp2_with fail
                    go_quiet (fail)
                    go_wp2_with fail
                    go_roundw
                    case measure => simp [intOf]; omega
                    case rel => exact ⟨i + 1, q + nq, best, by omega, by go_num, rfl, ⟨HG.out.skip HT.out⟩, ⟨by rw [HWY.out, World.drewN_drewN]⟩⟩
                  | false =>
                    have e1 : restF (rAt t all ws) f j i = ri := by unfold restF; rw [hhit, hri]; rfl
                    rw [e1] at c1
                    have HT := Aside0.mk hhit
                    have HRR := Aside0.mk hri
                    clear hhit e1 hri
                    rcases HG.out.range with hb | ⟨b, hb, hbi, hbh⟩
                    · subst hb
                      go_wp2_with fail
                      go_quiet (fail)
                      go_wp2_with fail
                      go_roundw
                      case measure => simp [intOf]; omega
                      case rel => exact ⟨i + 1, q + nq, i, by omega, by go_num, rfl, ⟨HG.out.first HT.out⟩, ⟨by rw [HWY.out, World.drewN_drewN]⟩⟩
                    · subst hb
                      have hbz : (b : Int) < (ws.length : Int) := by omega
                      have hbz0 : ¬ (b : Int) < 0 := by omega
                      have c2 := HRZ.out.cell (show b < ws.length by omega)
                      obtain ⟨rb, hrb⟩ : ∃ rb, rb = rAt t all ws b := ⟨_, rfl⟩
                      have e2 : restF (rAt t all ws) f j b = rb := by unfold restF; rw [hbh, hrb]; rfl
                      rw [e2] at c2
                      have HRB := Aside0.mk hrb
                      clear hrb hbh e2
                      by_cases hbr : rb < ri
                      · go_wp2_with fail
                        go_quiet (fail)
                        go_wp2_with fail
                        go_roundw
                        case measure => simp [intOf]; omega
                        case rel => exact ⟨i + 1, q + nq, i, by omega, by go_num, rfl, ⟨HG.out.better HT.out (by rw [← HRB.out, ← HRR.out]; exact hbr)⟩, ⟨by rw [HWY.out, World.drewN_drewN]⟩⟩
                      · go_wp2_with fail
                        go_quiet (fail)
                        go_wp2_with fail
                        go_roundw
                        case measure => simp [intOf]; omega
                        case rel => exact ⟨i + 1, q + nq, b, by omega, by go_num, rfl, ⟨HG.out.worse HT.out (by rw [← HRB.out, ← HRR.out]; omega)⟩, ⟨by rw [HWY.out, World.drewN_drewN]⟩⟩
                · obtain rfl : i = ws.length := by omega
                  have hiz : ¬ ((ws.length : Int)) < (ws.length : Int) := by omega
                  have hbest := HG.out.done HO.out hjm
                  subst hbest
                  have hfb := HO.out.bd hjm
                  have HRXX := Aside0.mk (show RowI wr go ws.length (outF (qAt t all ws) f j) by rw [HWY.out]; exact HRX.out.drewN q)
                  have HRYY := Aside0.mk (show RowI wr gr ws.length (restF (rAt t all ws) f j) by rw [HWY.out]; exact HRY.out.drewN q)
                  have HBB := Aside0.mk (show Below w.heap.size w wr by rw [HWY.out]; exact pw_below_drewN HBX.out q)
                  have co0 := HRXX.out.cell hfb
                  have fo0 := HRXX.out.free (f j)
                  have hnh := HO.out.not_hit hjm
                  obtain ⟨i, hi2⟩ : ∃ i, i = f j := ⟨_, rfl⟩
                  rw [← hi2] at co0 fo0 hfb ⊢
                  obtain ⟨u, hu⟩ : ∃ u, u = outF (qAt t all ws) f j i := ⟨_, rfl⟩
                  rw [← hu] at co0
                  have hw : IntKind.i64.wrap (u + 1) = u + 1 := by
                    have e1 : u = qAt t all ws i := by rw [hu, hi2]; unfold outF; rw [hnh]; simp
                    have e2 := q_le_left ht0 HNN.out H5.out i hfb
                    rw [← HALL.out] at e2
                    have e3 := HMI.out
                    have e4 := H2.out
                    unfold I64 at e4
                    rw [IntKind.wrap_i64]
                    omega
                  have hiz2 : (i : Int) < (ws.length : Int) := by omega
                  have HS2 := (show RowI (wr.setCell ⟨go, i, none⟩ (.int .i64 (u + 1))) gr ws.length (restF (rAt t all ws) f j) from HRYY.out.upd ((Upd.refl go wr).put _ _) NE1.out.symm)
                  have c2 := HS2.cell hfb
                  have f2 := HS2.free i
                  generalize restF (rAt t all ws) f j i = rx at c2
                  have w2 : IntKind.i64.wrap ((l : Int) - 1) = ((l - 1 : Nat) : Int) := by rw [IntKind.wrap_i64]; omega
                  have HI := Aside0.mk hi2
                  have HUU := Aside0.mk hu
                  have HNH := Aside0.mk hnh
                  have HSS := Aside0.mk HS2
                  clear hi2 hu hnh HS2
                  go_wp2_with fail
                  go_roundw
                  case measure => simp [intOf]; omega
                  case rel =>
                    refine ⟨l - 1, j + 1, by omega, rfl, ⟨(HBB.out.grown (grown_put _ _ _ _) HBB.out.size (fun k hk => by injection hk with hk; omega)).grown (grown_put _ _ _ _) (by have := HBB.out.size; simpa [World.setCell] using this) (fun k hk => by injection hk with hk; omega)⟩, ⟨?_⟩, ⟨?_⟩⟩
                    · have := (HRXX.out.put hfb (u + 1)).upd ((Upd.refl gr _).put i (.int .i64 (-1))) NE1.out
                      rw [HUU.out, HI.out, outF_step HNH.out] at this
                      rw [HUU.out, HI.out]
                      exact this
                    · have := HSS.out.put hfb (-1)
                      rw [HI.out, restF_step] at this
                      rw [HI.out]
                      exact this
            · obtain rfl : l = 0 := by omega
              obtain rfl : j = m := by omega
              go_wp2_with fail
              go_ret2
              have hall := HALL.out
              subst hall
              have hrd := HRX.out.reads (outL t ws.sum ws f) (outL_len _ _ _ _) (fun i hi => by rw [outL_at _ _ _ _ _ hi, HM.out]) (by omega)
              refine ⟨some ⟨go, 0, none⟩, co, 0, outL t ws.sum ws f, by rw [outL_len]; rfl, by rw [outL_len]; exact hrd, ?_, HBX.out, by rw [outL_len]; exact h1⟩
              unfold SplitIs
              rw [if_neg (by rintro (h | h | ⟨x, hx, h⟩); omega; omega; have := HNN.out x hx; omega), if_neg (fun h => h H4.out), if_neg (by have := H5.out; omega)]
              exact ⟨rfl, f, HO.out, rfl⟩
end Go.Proofs.Ytimdoddaaelfjaa.Ext
