/- ShareOrder: the walk. -/
import Derived.Test.YtimdoddaaelfjaaSLawS
namespace Go.Proofs.Ytimdoddaaelfjaa.Ext
open Go.RowKit Go.ChangeShapes Go.WideShapes Go.Proofs.YtimdoddaaelfjaaW.PrintWords Go.Proofs.YtimdoddaaelfjaaW.PrintLast Go.Proofs.YtimdoddaaelfjaaW.PrintMore Go.Proofs.YtimdoddaaelfjaaW.Hand
set_option linter.unusedVariables false
def mulL (c : Int) (ws : List Int) : List Int := ws.map fun w => w * c
theorem mulL_len (c : Int) (ws : List Int) : (mulL c ws).length = ws.length := by unfold mulL; simp
theorem mulL_sum (c : Int) (ws : List Int) : (mulL c ws).sum = c * ws.sum := by
  unfold mulL
  induction ws with
  | nil => simp
  | cons w ws ih => rw [List.map_cons, List.sum_cons, List.sum_cons, ih, Int.mul_add, Int.mul_comm w c]
theorem mulL_take (c : Int) (ws : List Int) (k : Nat) (h : k < ws.length) : mulL c (ws.take (k + 1)) = mulL c (ws.take k) ++ [ws.getD k 0 * c] := by
  unfold mulL; rw [take_snoc ws k h, List.map_append]; rfl
theorem qL_mul (t c all : Int) (ws : List Int) (hc : 0 < c) : qL t (c * all) (mulL c ws) = qL t all ws := by
  unfold qL mulL
  rw [List.map_map]
  refine List.map_congr_left fun w _ => ?_
  show t * (w * c) / (c * all) = _
  rw [show t * (w * c) = c * (t * w) by rw [← Int.mul_assoc, Int.mul_comm]]
  exact Int.mul_ediv_mul_of_pos _ _ hc
theorem rAt_mul (t c all : Int) (ws : List Int) (hc : 0 < c) (i : Nat) (hi : i < ws.length) : rAt t (c * all) (mulL c ws) i = c * rAt t all ws i := by
  rw [rAt_eq _ _ _ _ (by rw [mulL_len]; exact hi), rAt_eq _ _ _ _ hi]
  have : (mulL c ws).getD i 0 = ws.getD i 0 * c := by
    unfold mulL
    simp [List.getD_eq_getElem?_getD, List.getElem?_eq_getElem hi]
  rw [this, show t * (ws.getD i 0 * c) = c * (t * ws.getD i 0) by rw [← Int.mul_assoc, Int.mul_comm]]
  exact Int.mul_emod_mul_of_pos _ _ hc
theorem split_mul {t c : Int} {ws l : List Int} {e : Int} (hc : 0 < c) (hc2 : c ≤ 256) (hw : ∀ w ∈ ws, 0 ≤ w ∧ w ≤ 1099511627776) (h : SplitIs t (mulL c ws) l e) : SplitIs t ws l e := by
  have hnn : ∀ w ∈ ws, 0 ≤ w := fun w hx => (hw w hx).1
  have hmm : ∀ w ∈ mulL c ws, 0 ≤ w := fun w hx => by
    obtain ⟨x, h1, rfl⟩ := List.mem_map.1 hx
    exact Int.mul_nonneg (hnn x h1) (by omega)
  unfold SplitIs at h ⊢
  rw [mulL_len, mulL_sum] at h
  by_cases h1 : 100 < ws.length ∨ t < 0
  · rw [if_pos (by rcases h1 with h1 | h1; exact .inl h1; exact .inr (.inl h1))] at h
    rw [if_pos (by rcases h1 with h1 | h1; exact .inl h1; exact .inr (.inl h1))]
    exact h
  rw [if_neg (by rintro (x | x | ⟨w, x, y⟩); exact h1 (.inl x); exact h1 (.inr x); have := hmm w x; omega)] at h
  rw [if_neg (by rintro (x | x | ⟨w, x, y⟩); exact h1 (.inl x); exact h1 (.inr x); have := hnn w x; omega)]
  have hlen : ws.length ≤ 100 := by
    by_cases x : 100 < ws.length
    · exact (h1 (.inl x)).elim
    · omega
  have hsum : 0 ≤ ws.sum ∧ ws.sum ≤ 1099511627776 * ws.length := by
    clear h h1 hmm hnn hlen
    induction ws with
    | nil => simp
    | cons w ws ih =>
      have a := hw w (by simp)
      have b := ih (fun x hx => hw x (by simp [hx]))
      rw [List.sum_cons, List.length_cons, Int.natCast_add, Int.mul_add]
      omega
  have hcs : c * ws.sum ≤ 256 * (1099511627776 * 100) := Int.mul_le_mul hc2 (by omega) hsum.1 (by omega)
  have hcs0 : 0 ≤ c * ws.sum := Int.mul_nonneg (by omega) hsum.1
  rw [if_neg (fun x => x (by unfold I64; omega))] at h
  rw [if_neg (fun x => x (by unfold I64; omega))]
  by_cases h0 : ws.sum = 0
  · rw [if_pos (by rw [h0, Int.mul_zero])] at h
    rw [if_pos h0]; exact h
  rw [if_neg (by intro x; rcases Int.mul_eq_zero.1 x with y | y; omega; exact h0 y)] at h
  rw [if_neg h0]
  obtain ⟨he, f, hf, hl⟩ := h
  refine ⟨he, f, ⟨fun i j x y z => ?_, hf.2⟩, ?_⟩
  · have := hf.1 i j x y z
    have bi := hf.bd (show i < ws.length by omega)
    have bj := hf.bd z
    unfold bf at this ⊢
    rw [rAt_mul t c _ ws hc _ bi, rAt_mul t c _ ws hc _ bj] at this
    rcases this with this | ⟨h1, h2⟩
    · exact .inl (Int.lt_of_mul_lt_mul_left this (by omega))
    · exact .inr ⟨Int.eq_of_mul_eq_mul_left (by omega) h1, h2⟩
  · rw [hl]
    unfold outL leftOf qAt
    rw [qL_mul t c _ ws hc, mulL_len]
section
variable {W0 W : World} {L : Nat} {vo vr : Value} {xo xr : List Int} {ops : Array Oper} {rest : List Oper} {o : Oper} {a : Act} {Q : Exit → Act → World → Prop}
/-- A long row that grows. -/
theorem N2.app_long (h : N2 W0 L W vo vr xo xr) (u : Int) (hgd : o.guard = none) (s x : Operand)
    (ho : o.op = .call { callee := .builtin .append, args := #[s, x], argTypes := #[22, 22] }) (he : a.eval s = vo) (hx : a.eval x = .slice (some ⟨W.heap.size, 0, none⟩) 1 1) (hl : (xo.length + 1) * 8 ≤ 140737488355328)
    (k : ∀ v1 w1, N2 W0 L w1 v1 vr (xo ++ [u]) xr → wpList Try.prog ops Q rest (a.put o.dst v1) w1) : wpList Try.prog ops Q (o :: rest) a (W.alloc (.cells #[.int .i64 u] 2)) := by
  obtain ⟨i0, hi, hzz⟩ := Option.map_eq_some_iff.1 infoL
  simp only [Prod.mk.injEq] at hzz
  obtain ⟨hz0, hz1, hz2⟩ := hzz
  refine wpList_append_own_at (W.alloc (.cells #[.int .i64 u] 2)) hgd s x 22 ho L 2 i0 (.int .i64 0) 1 8 Try.underlying22 hi hz0 hz1 hz2 rfl (by decide) vo xo.length (nums .i64 xo) he (h.o.alloc _) ⟨W.heap.size, 0, none⟩ 1 1 [.int .i64 u] hx (by simp)
    (by simpa using World.news_of_block (cs := #[.int .i64 u]) (t := 2) (fr := (0, 0)) (heap_alloc_new W (.cells #[.int .i64 u] 2))) (by simp [Value.oneCell']) (by simp only [maxLen]; omega) (by omega) (by have := h.lb; rw [size_alloc]; omega) ?_
  intro v1 w1 hown hg _ hat
  exact k v1 w1 ((h.alloc _).grow_o hown hg hat)
end
set_option maxRecDepth 100000 in
set_option maxHeartbeats 12800000 in
theorem ShareOrder.go {n c : Nat} (t : Int) (A : Option Addr) (ws : List Int) (b : Int) (hn : ws.length = n) (w : World) (hr : Kd.C (Kd.int .i64) w A n ws) (hc : n ≤ c) (ht : I64 t) (hw : ∀ x ∈ ws, I64 x) (hb0 : 0 ≤ b) (hb1 : b ≤ 255) (hm : n * 8 ≤ 140737488351232) :
    Calls Try.prog 6 #[.int .i64 t, .slice A n c, .int .u8 b] w fun e w' => e = .returned (.bool true) ∧ Below w.heap.size w w' := by
  subst hn
  have HR := Aside0.mk hr
  have HT := Aside0.mk ht
  have HW := Aside0.mk hw
  obtain ⟨cc, hcc⟩ : ∃ cc, cc = 1 + b := ⟨_, rfl⟩
  have u1 : IntKind.i64.wrap b = b := by rw [IntKind.wrap_i64]; omega
  have u2 : IntKind.i64.wrap (1 + b) = cc := by rw [IntKind.wrap_i64]; omega
  have hc0 : 0 < cc := by omega
  have hc1 : cc ≤ 256 := by omega
  clear hr ht hw hcc
  go_enter Try.func6, Try.ntmps6
  go_wp2_with fail
  go_loopw [7, 8] (fun vo vi wr => ∃ k : Nat, k ≤ ws.length ∧ vi = .int .i64 k ∧ Aside0 (N2 w w.heap.size wr vo (.slice none 0 0) (mulL cc (ws.take k)) []) ∧ Aside0 (∀ i, i < k → 0 ≤ ws.getD i 0 ∧ ws.getD i 0 ≤ 1099511627776)) (fun _ i _ => ws.length - (intOf i).toNat)
  case atStart => exact ⟨0, Nat.zero_le _, rfl, ⟨own_nil _ _ _ _, own_nil _ _ _ _, fun k hk => by simp [Value.ownBlock] at hk, Nat.le_refl _, Below.refl _ _⟩, ⟨fun i hi => by omega⟩⟩
  case round =>
    obtain ⟨k, hk, rfl, HN, HG⟩ := hrel
    by_cases hlt : k < ws.length
    · have hlz : (k : Int) < (ws.length : Int) := by omega
      obtain ⟨ad, e1, hx⟩ := Kd.at_int (Kd.C_below HR.out HN.out.low) k (by omega) (by omega)
      cases e1
      simp only [Int.toNat_natCast] at hx
      obtain ⟨x, hx0⟩ : ∃ x, x = ws.getD k 0 := ⟨_, rfl⟩
      rw [show rd ws (k : Int) = x by rw [hx0]; rfl] at hx
      have HX := Aside0.mk hx0
      clear hx0
      by_cases d1 : x < 0
      · go_wp2_with (go_at_call 11; (with_reducible refine (goes_calls _).mono ?_); rintro e w9 ⟨rfl, hb⟩; have HB9 := Aside0.mk (below_step' HN.out.low hb); clear hb)
        go_ret
        exact ⟨rfl, HB9.out⟩
      by_cases d2 : 1099511627776 < x
      · go_wp2_with (go_at_call 11; (with_reducible refine (goes_calls _).mono ?_); rintro e w9 ⟨rfl, hb⟩; have HB9 := Aside0.mk (below_step' HN.out.low hb); clear hb)
        go_ret
        exact ⟨rfl, HB9.out⟩
      obtain ⟨u, hu⟩ : ∃ u, u = x * cc := ⟨_, rfl⟩
      have hu0 : 0 ≤ x * cc := Int.mul_nonneg (by omega) (by omega)
      have hu1 : x * cc ≤ 1099511627776 * 256 := Int.mul_le_mul (by omega) hc1 (by omega) (by omega)
      have u3 : IntKind.i64.wrap (x * cc) = u := by rw [IntKind.wrap_i64, hu]; omega
      have HU := Aside0.mk (show u = ws.getD k 0 * cc by rw [hu, HX.out])
      have hl : ((mulL cc (ws.take k)).length + 1) * 8 ≤ 140737488355328 := by rw [mulL_len, List.length_take]; omega
      clear hu hu0 hu1
      go_wp2_with (at_builtin; refine HN.out.app_long u rfl (.tmp 32) (.tmp 41) rfl rfl rfl hl ?_; intro vo1 w5 h5; have HN5 := Aside0.mk h5; clear h5)
      go_roundw
      case measure => simp [intOf]; omega
      case rel =>
        refine ⟨k + 1, by omega, by go_num, ⟨by rw [mulL_take _ _ _ hlt, ← HU.out]; exact HN5.out⟩, ⟨fun i hi => ?_⟩⟩
        by_cases e : i = k
        · subst e; rw [← HX.out]; omega
        · exact HG.out i (by omega)
    · obtain rfl : k = ws.length := by omega
      have hlz : ¬ ((ws.length : Int)) < (ws.length : Int) := by omega
      have hn := HN.out
      rw [List.take_length] at hn
      obtain ⟨A2, c2, hv, hc2, hrd⟩ := own_reads_of_le (enc := Value.int .i64) (d := (0 : Int)) hn.o
      rw [mulL_len] at hv hc2 hrd
      subst hv
      have HLOW := Aside0.mk hn.low
      have hall : ∀ x ∈ ws, 0 ≤ x ∧ x ≤ 1099511627776 := fun x hx => by
        obtain ⟨i, hi, rfl⟩ := List.getElem_of_mem hx
        have := HG.out i hi
        rw [List.getD_eq_getElem?_getD, List.getElem?_eq_getElem hi] at this
        exact this
      have HALL := Aside0.mk hall
      have hmI : ∀ x ∈ mulL cc ws, I64 x := fun x hx => by
        obtain ⟨y, hy, rfl⟩ := List.mem_map.1 hx
        have g := hall y hy
        have g0 : 0 ≤ y * cc := Int.mul_nonneg g.1 (by omega)
        have g1 : y * cc ≤ 1099511627776 * 256 := Int.mul_le_mul g.2 hc1 (by omega) (by omega)
        unfold I64; omega
      have HM := Aside0.mk hmI
      have HRD := Aside0.mk (Kd.C_of_reads (d := (0 : Int)) (h1 := fun _ => rfl) hrd)
      have k1 := Aside0.mk (split_calls (c := c) t A ws rfl wr (Kd.C_below HR.out HLOW.out) hc HT.out HW.out (by omega))
      have k2 : Aside0 (∀ w1, Below wr.heap.size wr w1 → Calls Try.prog 8 #[.int .i64 t, .slice A2 ws.length c2] w1 fun e w' => SplitPost t (mulL cc ws) w1 e w') := ⟨fun w1 hb => split_calls (c := c2) t A2 (mulL cc ws) (mulL_len _ _) w1 (Kd.C_below HRD.out hb) hc2 HT.out HM.out (by omega)⟩
      clear hn hrd HN HG hall hmI
      go_wp2_with (first | (go_at_call 8; (with_reducible refine k1.out.mono ?_); rintro e w2 ⟨A3, d3, e3, l3, rfl, hC3, hS3, hb3, hl3⟩; have HB3 := Aside0.mk hb3; have HC3 := Aside0.mk hC3; have HS3 := Aside0.mk hS3; obtain ⟨n3, hn3⟩ : ∃ n3, l3.length = n3 := ⟨_, rfl⟩; rw [hn3]; have HN3 := Aside0.mk hn3; clear hC3 hS3 hb3 hl3 hn3 k1) | (go_at_call 8; (with_reducible refine (k2.out _ HB3.out).mono ?_); rintro e w4 ⟨A4, d4, e4, l4, rfl, hC4, hS4, hb4, hl4⟩; obtain ⟨rfl, he⟩ := (split_mul hc0 hc1 HALL.out hS4).unique HS3.out; obtain rfl : e4 = e3 := (by omega); have HB4 := Aside0.mk (below_step' (below_step' HLOW.out HB3.out) hb4); have ks := Aside0.mk (same_calls (c1 := d3) (c2 := d4) A3 A4 l4 w4 HN3.out rfl (Kd.C_below HC3.out hb4) hC4); clear hC4 hS4 hb4 hl4 he k2 HS3 HC3 HN3) | (go_at_call 10; (with_reducible refine ks.out.mono ?_); rintro e w5 ⟨rfl, hb⟩; have HB5 := Aside0.mk (below_step' HB4.out hb); clear hb ks) | (go_at_call 11; (with_reducible refine (goes_calls _).mono ?_); rintro e w9 ⟨rfl, hb⟩; have HB9 := Aside0.mk (below_step' HB5.out hb); clear hb))
      go_ret
      exact ⟨rfl, HB9.out⟩
theorem wf_u8s (a : Int) (h : (Lit.int .u8 a).wf = true) : 0 ≤ a ∧ a ≤ 255 := by
  have h1 : IntKind.u8.min = 0 := rfl
  have h2 : IntKind.u8.max = 255 := rfl
  simp only [Lit.wf, Bool.and_eq_true, decide_eq_true_eq, h1, h2] at h
  omega
theorem ShareOrder.walk {H : Type} {enc : TypeId × Value → H} (t : Int) (x : Option Addr) (len cap : Nat) (b : Int) (W : World) (w0 : (Lit.int .i64 t).wf = true) (w2 : (Lit.int .u8 b).wf = true) {d : DataW H} {p : List MemPlace}
    (k : DataW.Trod enc Try.prog W 0 (fun _ => true) true 22 (.slice x len cap) d p) (y : len * 8 ≤ 140737488351232) :
    Calls Try.prog 6 #[.int .i64 t, .slice x len cap, .int .u8 b] W fun e w' => e = .returned (.bool true) ∧ Below W.heap.size W w' := by
  obtain ⟨l, rfl, hr, hc, hm, hi⟩ := nums_open k
  have hb := wf_u8s b w2
  exact ShareOrder.go t x l b rfl W hr hc (wf_i64b t w0) hi hb.1 hb.2 y
end Go.Proofs.Ytimdoddaaelfjaa.Ext
