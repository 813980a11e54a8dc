/- TiersSpans, as a plain statement, proved. -/
import Derived.Test.YthgfdgkmmlbohaaPureA
namespace Go.Proofs.Ythgfdgkmmlbohaa.Ext
open Go.RowKit Go.Proofs.YthgfdgkmmlbohaaW.PrintWords Go.Proofs.YthgfdgkmmlbohaaW.PrintLast Go.Proofs.YthgfdgkmmlbohaaW.PrintMore Go.Proofs.Ythgfdgkmmlbohaa.PZ
set_option linter.unusedVariables false
def cl (n W : Int) (r : List S27) : List Int := (spansFrom n W r).map (fun x => (small (x.2 * x.1.f1)).1)
def ov (n W : Int) (r : List S27) : Bool := (spansFrom n W r).any (fun x => (small (x.2 * x.1.f1)).2 != 0)
def lft (n W : Int) : Int := if W < n then n - W else 0
def FIN (ls : List S27) (n : Int) (m : Nat) (y : List Int) (o : Bool) : Option Bool :=
  (money_Sum.f y).bind fun b => (tiers_Price.f ls n).bind fun p => quitrentlaw11_TiersSpans.j2 m 0 b.1 p.1 p.2 (o || (b.2 != 0))
theorem fin_at (ls : List S27) (n : Int) (s : List Int) (hs : s.length = ls.length) (m : Nat) (w : Int) (y : List Int) (o : Bool) (i : Nat) (hi : i = ls.length) :
    quitrentlaw11_TiersSpans.l0 (m + 1) ls n s 0 w y o (i : Int) = FIN ls n m y o := by
  simp only [quitrentlaw11_TiersSpans.l0]
  rw [if_neg (by omega)]
  unfold FIN
  cases o with
  | true => simp
  | false => simp
theorem spans_loop (ls : List S27) (n : Int) (s : List Int) (hs : s.length = ls.length) (hn0 : 0 ≤ n) (hn1 : n < 9223372036854775808) (h20 : ls.length ≤ 20) (hall : ∀ t ∈ ls, 0 ≤ t.f0 ∧ t.f0 ≤ 1099511627776 ∧ 0 ≤ t.f1 ∧ t.f1 ≤ 1125899906842624) (m : Nat) :
    ∀ (r : List S27) (i : Nat) (W : Int) (y : List Int) (o : Bool), i + r.length = ls.length → ls.drop i = r → s.drop i = (spansFrom n W r).map (·.2) → chkFrom W r = true → 0 ≤ W → W ≤ 1099511627776 → r ≠ [] → y.length ≤ 100 - r.length →
      quitrentlaw11_TiersSpans.l0 (r.length + (m + 1)) ls n s (lft n W) W y o (i : Int) = FIN ls n m (y ++ cl n W r) (o || ov n W r) := by
  intro r
  induction r with
  | nil => intro i W y o _ _ _ _ _ _ h; exact absurd rfl h
  | cons t r ih =>
    intro i W y o hi hd hsd hc hW hW2 _ hy
    have hlt : i < ls.length := by simp only [List.length_cons] at hi; omega
    have h1 := drop27 ls i hlt
    rw [hd] at h1
    injection h1 with h1 h2
    have hs1 : rd s (i : Int) = spanOf n W t := by
      have e : s.drop i = rd s i :: s.drop (i + 1) := by
        rw [List.drop_eq_getElem_cons (by omega)]
        simp [rd, List.getD_eq_getElem?_getD, List.getElem?_eq_getElem (show i < s.length by omega)]
      rw [e] at hsd
      simp only [spansFrom, List.map_cons] at hsd
      injection hsd
    have hs2 : s.drop (i + 1) = (spansFrom n (wasOf W t) r).map (·.2) := by
      have e : s.drop i = rd s i :: s.drop (i + 1) := by
        rw [List.drop_eq_getElem_cons (by omega)]
        simp [rd, List.getD_eq_getElem?_getD, List.getElem?_eq_getElem (show i < s.length by omega)]
      rw [e] at hsd
      simp only [spansFrom, List.map_cons] at hsd
      injection hsd
    have hmem : t ∈ ls := by
      have : t ∈ ls.drop i := by rw [hd]; simp
      exact List.mem_of_mem_drop this
    obtain ⟨b0, b1, b2, b3⟩ := hall t hmem
    have hk : (t :: r).length + (m + 1) = (r.length + (m + 1)) + 1 := by simp only [List.length_cons]; omega
    rw [hk]
    obtain ⟨K, hK⟩ : ∃ K, r.length + (m + 1) = K := ⟨_, rfl⟩
    rw [hK] at ih ⊢
    simp only [quitrentlaw11_TiersSpans.l0]
    rw [if_pos (show (i : Int) < s.length by omega), if_pos (show (0 : Int) ≤ i by omega), hs1, ← h1]
    have hcl : cl n W (t :: r) = (small (spanOf n W t * t.f1)).1 :: cl n (wasOf W t) r := rfl
    have hov : ov n W (t :: r) = (((small (spanOf n W t * t.f1)).2 != 0) || ov n (wasOf W t) r) := rfl
    rw [hcl, hov]
    obtain ⟨P, hP⟩ : ∃ P, spanOf n W t = P := ⟨_, rfl⟩
    have hl : P ≤ lft n W ∧ 0 ≤ P ∧ (0 < t.f0 → W < t.f0 → P ≤ t.f0 - W ∧ (P < t.f0 - W → P = lft n W) ∧ lft n W - P = lft n t.f0) ∧ (t.f0 = 0 → P = lft n W) ∧ lft n W < 9223372036854775808 := by
      obtain ⟨E, hE⟩ : ∃ E, endOf n t = E := ⟨_, rfl⟩
      obtain ⟨L, hL⟩ : ∃ L, lft n W = L := ⟨_, rfl⟩
      obtain ⟨L2, hL2⟩ : ∃ L, lft n t.f0 = L := ⟨_, rfl⟩
      have k1 : (0 < t.f0 ∧ t.f0 < n ∧ E = t.f0) ∨ (0 < t.f0 ∧ n ≤ t.f0 ∧ E = n) ∨ (t.f0 ≤ 0 ∧ E = n) := by
        rw [← hE]; unfold endOf
        by_cases c0 : 0 < t.f0
        · rw [if_pos c0]
          by_cases c1 : t.f0 < n
          · rw [if_pos c1]; exact .inl ⟨c0, c1, rfl⟩
          · rw [if_neg c1]; exact .inr (.inl ⟨c0, by omega, rfl⟩)
        · rw [if_neg c0]; exact .inr (.inr ⟨by omega, rfl⟩)
      have k2 : (0 < E - W ∧ P = E - W) ∨ (E - W ≤ 0 ∧ P = 0) := by
        rw [← hP]; unfold spanOf; rw [hE]
        by_cases c0 : 0 < E - W
        · rw [if_pos c0]; exact .inl ⟨c0, rfl⟩
        · rw [if_neg c0]; exact .inr ⟨by omega, rfl⟩
      have k3 : (W < n ∧ L = n - W) ∨ (n ≤ W ∧ L = 0) := by
        rw [← hL]; unfold lft
        by_cases c0 : W < n
        · rw [if_pos c0]; exact .inl ⟨c0, rfl⟩
        · rw [if_neg c0]; exact .inr ⟨by omega, rfl⟩
      have k4 : (t.f0 < n ∧ L2 = n - t.f0) ∨ (n ≤ t.f0 ∧ L2 = 0) := by
        rw [← hL2]; unfold lft
        by_cases c0 : t.f0 < n
        · rw [if_pos c0]; exact .inl ⟨c0, rfl⟩
        · rw [if_neg c0]; exact .inr ⟨by omega, rfl⟩
      rw [hL, hL2]
      clear hE hL hL2 hP hy hi hd hsd h1 h2 hs1 hs2 hk hcl hov
      clear ih hc hW2 hall hmem hlt b1 b2 b3 hs h20
      rcases k1 with ⟨a1, a2, rfl⟩ | ⟨a1, a2, rfl⟩ | ⟨a1, rfl⟩ <;> rcases k2 with ⟨a3, rfl⟩ | ⟨a3, rfl⟩ <;> rcases k3 with ⟨a4, rfl⟩ | ⟨a4, rfl⟩ <;> rcases k4 with ⟨a5, rfl⟩ | ⟨a5, rfl⟩ <;> refine ⟨by omega, by omega, fun q0 q1 => ⟨by omega, fun q2 => by omega, by omega⟩, fun q0 => by omega, by omega⟩
    rw [hP]
    obtain ⟨q1, q2, q3, q4, q5⟩ := hl
    have hml : money_Mul.f P t.f1 = some (small (P * t.f1)) := Mul_small _ _ (by unfold I64; omega) (by unfold I64; omega)
    obtain ⟨⟨c1, c2⟩, hcc⟩ : ∃ c, small (P * t.f1) = c := ⟨_, rfl⟩
    rw [if_neg (show ¬ P < 0 by omega), if_neg (show ¬ P > lft n W by omega), if_pos (show (i : Int) < ls.length by omega), hml, hcc]
    have hy2 : y.length < 17592186044416 := by omega
    have E2 : Aside0 (wrap64 ((i : Int) + 1) = ((i + 1 : Nat) : Int)) := ⟨by rw [wrap_i _ (by omega) (by omega)]; omega⟩
    have W1 : Aside0 (wrap64 (lft n W - P) = lft n W - P) := ⟨wrap_i _ (by omega) (by omega)⟩
    simp only [Option.bind_some]
    rw [if_pos hy2, if_pos hy2, W1.out, E2.out]
    have hmix : ∀ (L F : Int), (if o = true then quitrentlaw11_TiersSpans.l0 K ls n s L F (y ++ [c1]) true ((i + 1 : Nat) : Int) else quitrentlaw11_TiersSpans.l0 K ls n s L F (y ++ [c1]) (c2 != 0) ((i + 1 : Nat) : Int)) = quitrentlaw11_TiersSpans.l0 K ls n s L F (y ++ [c1]) (o || (c2 != 0)) ((i + 1 : Nat) : Int) := fun L F => by
      cases o <;> simp
    rw [hmix]
    rcases chk_head hc hW with ⟨z1, z2⟩ | ⟨z1, z2⟩
    · have q4 := q4 z1
      rw [if_neg (show ¬ t.f0 > 0 by omega), z2, q4, Int.sub_self]
      rw [show K = m + 1 from by rw [← hK, z2]; simp]
      rw [fin_at ls n s hs m _ _ _ (i + 1) (by rw [z2] at hi; simpa using hi)]
      simp [cl, ov, spansFrom]
    · obtain ⟨p1, p2, p3⟩ := q3 (by omega) z1
      have e1 : wasOf W t = t.f0 := by unfold wasOf; rw [if_pos z1]
      have W2 : Aside0 (wrap64 (t.f0 - W) = t.f0 - W) := ⟨wrap_i _ (by omega) (by omega)⟩
      rw [e1] at hs2 ⊢
      have hr : r ≠ [] := by
        intro hr
        rw [hr] at hc
        simp only [chkFrom, okP, Bool.and_eq_true, beq_iff_eq] at hc
        omega
      have hih := ih (i + 1) t.f0 (y ++ [c1]) (o || (c2 != 0)) (by simp only [List.length_cons] at hi; omega) h2.symm hs2 z2 (by omega) b1 hr (by simp only [List.length_append, List.length_cons, List.length_nil] at *; omega)
      have hfin : quitrentlaw11_TiersSpans.l0 K ls n s (lft n W - P) t.f0 (y ++ [c1]) (o || (c2 != 0)) ((i + 1 : Nat) : Int) = FIN ls n m (y ++ c1 :: cl n t.f0 r) (o || ((c2 != 0) || ov n t.f0 r)) := by
        rw [p3, hih, Bool.or_assoc]
        simp
      rw [if_pos (show t.f0 > 0 by omega), W2.out, if_neg (show ¬ P > t.f0 - W by omega)]
      by_cases c : P < t.f0 - W
      · rw [if_pos c, if_pos (p2 c)]; exact hfin
      · rw [if_neg c]; exact hfin
theorem small_sum (l : List (S27 × Int)) (h : ∀ x ∈ l, 0 ≤ x.1.f1 ∧ 0 ≤ x.2) : (l.any (fun x => (small (x.2 * x.1.f1)).2 != 0) = false → (l.map (fun x => (small (x.2 * x.1.f1)).1)).sum = tot l ∧ ∀ a ∈ l.map (fun x => (small (x.2 * x.1.f1)).1), I64 a) ∧
    (l.any (fun x => (small (x.2 * x.1.f1)).2 != 0) = true → 9223372036854775808 ≤ tot l) := by
  induction l with
  | nil => exact ⟨fun _ => ⟨rfl, fun a ha => by cases ha⟩, fun h => by cases h⟩
  | cons x l ih =>
    have hx := h x (by simp)
    have ih := ih (fun y hy => h y (by simp [hy]))
    have hp := Int.mul_nonneg hx.1 hx.2
    have hl := tot_nonneg l (fun y hy => h y (by simp [hy]))
    have ht : tot (x :: l) = x.1.f1 * x.2 + tot l := rfl
    rw [ht]
    rw [Int.mul_comm x.1.f1] at hp ⊢
    simp only [List.any_cons, List.map_cons, List.sum_cons]
    obtain ⟨P, hP⟩ : ∃ P, x.2 * x.1.f1 = P := ⟨_, rfl⟩
    rw [hP] at hp ⊢
    by_cases c : I64 P
    · rw [small_yes P c]
      simp only [bne_self_eq_false, Bool.false_or]
      refine ⟨fun h => ?_, fun h => ?_⟩
      · obtain ⟨h1, h2⟩ := ih.1 h
        refine ⟨by rw [h1], fun a ha => ?_⟩
        rcases List.mem_cons.1 ha with rfl | ha
        · exact c
        · exact h2 a ha
      · have := ih.2 h; omega
    · rw [small_no P c]
      refine ⟨fun h => by simp at h, fun _ => ?_⟩
      unfold I64 at c
      omega
theorem TiersSpans_pure (ls : List S27) (n : Int) (hls : ∀ t ∈ ls, I64 t.f0 ∧ I64 t.f1) (hI : I64 n) : ∃ k, quitrentlaw11_TiersSpans.f k ls n = some true := by
  refine ⟨ls.length + 3, ?_⟩
  unfold quitrentlaw11_TiersSpans.f
  rw [spans_f _ _ hI]
  simp only [Option.bind_some]
  have hg : ∀ k, ((ls.length : Int) > 20 ∨ (spansL ls n).length = 0) → quitrentlaw11_TiersSpans.j0 (k + 1) ls n (spansL ls n) true = some true := fun k h => by
    simp only [quitrentlaw11_TiersSpans.j0, if_true, goes_true, Option.bind_some]
    by_cases c : (ls.length : Int) > 20
    · rw [if_pos c]
    · rw [if_neg c, if_pos (by rcases h with h | h; exact absurd h c; omega)]
  by_cases h : (ls.length : Int) > 20
  · rw [if_pos h]; exact hg _ (.inl h)
  rw [if_neg h]
  simp only [tiers_Check.f, Option.bind_some]
  by_cases hk : chk ls = true
  · rw [if_pos hk]
    by_cases h0 : n < 0
    · rw [decide_eq_true h0]
      refine hg _ (.inr ?_)
      unfold spansL
      rw [if_neg (by omega)]
      rfl
    rw [decide_eq_false h0]
    have hI2 := hI
    unfold I64 at hI2
    have hsl : spansL ls n = (spansFrom n 0 ls).map (·.2) := by unfold spansL; rw [if_pos ⟨hk, by omega⟩]
    have hlen : (spansL ls n).length = ls.length := by rw [hsl, List.length_map, spansFrom_length]
    have hne : ls ≠ [] := by
      intro h
      rw [h] at hk
      cases hk
    rw [show ls.length + 3 = (ls.length + 2) + 1 from rfl]
    simp only [quitrentlaw11_TiersSpans.j0]
    rw [if_neg (by simp), if_pos (by omega)]
    have hlf : n = lft n 0 := by unfold lft; split <;> omega
    have hloop := spans_loop ls n (spansL ls n) hlen (by omega) (by omega) (by omega) (chk_all hk) 1 ls 0 0 [] false (by omega) rfl (by rw [List.drop_zero, hsl]) (chk_from hk) (by omega) (by omega) hne (by simp)
    rw [← hlf] at hloop
    rw [show ls.length + 2 = ls.length + (1 + 1) from rfl]
    have hz : ((0 : Nat) : Int) = 0 := rfl
    rw [hz] at hloop
    rw [hloop]
    unfold FIN
    rw [price_f _ _ hI, price_cost hk (by omega), List.nil_append, Bool.false_or]
    obtain ⟨s1, s2⟩ := small_sum (spansFrom n 0 ls) (spans_nonneg (fun t ht => (chk_all hk t ht).2.2.1) 0)
    have hc := cost_nonneg hk n
    have hco : tot (spansFrom n 0 ls) = cost ls n := rfl
    rw [hco] at s1 s2
    have hll : (cl n 0 ls).length ≤ 9223372036854775807 := by unfold cl; rw [List.length_map, spansFrom_length]; omega
    cases ho : ov n 0 ls with
    | true =>
      have hT := s2 ho
      have hall : ∀ a ∈ cl n 0 ls, I64 a := by
        intro a ha
        unfold cl at ha
        obtain ⟨x, _, rfl⟩ := List.mem_map.1 ha
        unfold small
        split
        · assumption
        · unfold I64; omega
      have hsum : money_Sum.f (cl n 0 ls) = some (small (cl n 0 ls).sum) := if_pos ⟨hall, hll⟩
      rw [hsum]
      unfold priceT
      rw [if_neg (by omega)]
      simp [quitrentlaw11_TiersSpans.j2, goes_true]
    | false =>
      obtain ⟨hT, hall⟩ := s1 ho
      have hsum : money_Sum.f (cl n 0 ls) = some (small (cost ls n)) := by
        have : money_Sum.f (cl n 0 ls) = some (small (cl n 0 ls).sum) := if_pos ⟨hall, hll⟩
        rw [this]; unfold cl; rw [hT]
      rw [hsum]
      unfold priceT
      by_cases c : cost ls n < 9223372036854775808
      · rw [if_pos c, small_yes _ (show I64 (cost ls n) by unfold I64; omega)]
        simp [quitrentlaw11_TiersSpans.j2, goes_true]
      · rw [if_neg c, small_no _ (show ¬ I64 (cost ls n) by unfold I64; omega)]
        simp [quitrentlaw11_TiersSpans.j2, goes_true]
  · rw [if_neg hk]
    refine hg _ (.inr ?_)
    unfold spansL
    rw [if_neg (fun h => hk h.1)]
    rfl
end Go.Proofs.Ythgfdgkmmlbohaa.Ext
