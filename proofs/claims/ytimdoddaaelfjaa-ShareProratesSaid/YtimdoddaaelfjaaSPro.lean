/- The contract of share.Prorate: plain law and walk. -/
import Derived.Test.YtimdoddaaelfjaaSRef
namespace Go.Proofs.Ytimdoddaaelfjaa.Ext
open Go.RowKit Go.Proofs.YtimdoddaaelfjaaW.PrintWords Go.Proofs.YtimdoddaaelfjaaW.PrintLast Go.Proofs.YtimdoddaaelfjaaW.PrintMore Go.Proofs.YtimdoddaaelfjaaW.Hand
set_option linter.unusedVariables false
def pp (am ds : List Int) (i : Nat) : Int := am.getD i 0 * ds.getD i 0
def ppL (am ds : List Int) (n : Nat) : List Int := (List.range n).map (pp am ds)
def pqL (am ds : List Int) (of : Int) (n : Nat) : List Int := (List.range n).map fun i => pp am ds i / of
def prL (am ds : List Int) (of : Int) (n : Nat) : List Int := (List.range n).map fun i => pp am ds i % of
def proF (am ds : List Int) (of : Int) (n i : Nat) : Int := if i + 1 = n then pp am ds i / of + (prL am ds of n).sum / of else pp am ds i / of
def proL (am ds : List Int) (of : Int) (n : Nat) : List Int := (List.range n).map (proF am ds of n)
theorem ppL_succ (am ds : List Int) (n : Nat) : (ppL am ds (n + 1)).sum = (ppL am ds n).sum + pp am ds n := by unfold ppL; rw [List.range_succ]; simp
theorem pqL_succ (am ds : List Int) (of : Int) (n : Nat) : pqL am ds of (n + 1) = pqL am ds of n ++ [pp am ds n / of] := by unfold pqL; rw [List.range_succ]; simp
theorem prL_succ (am ds : List Int) (of : Int) (n : Nat) : (prL am ds of (n + 1)).sum = (prL am ds of n).sum + pp am ds n % of := by unfold prL; rw [List.range_succ]; simp
theorem pqL_len (am ds : List Int) (of : Int) (n : Nat) : (pqL am ds of n).length = n := by unfold pqL; simp
theorem proL_len (am ds : List Int) (of : Int) (n : Nat) : (proL am ds of n).length = n := by unfold proL; simp
theorem pqL_at (am ds : List Int) (of : Int) (n i : Nat) (h : i < n) : (pqL am ds of n).getD i 0 = pp am ds i / of := by
  unfold pqL; rw [List.getD_eq_getElem?_getD, List.getElem?_map, List.getElem?_range h]; rfl
theorem proL_at (am ds : List Int) (of : Int) (n i : Nat) (h : i < n) : (proL am ds of n).getD i 0 = proF am ds of n i := by
  unfold proL; rw [List.getD_eq_getElem?_getD, List.getElem?_map, List.getElem?_range h]; rfl
theorem pro_all (am ds : List Int) (of : Int) (n : Nat) : of * (pqL am ds of n).sum + (prL am ds of n).sum = (ppL am ds n).sum := by
  induction n with
  | zero => simp [pqL, prL, ppL]
  | succ n ih =>
    rw [pqL_succ, prL_succ, ppL_succ, List.sum_append]
    have := Int.mul_ediv_add_emod (pp am ds n) of
    simp only [List.sum_cons, List.sum_nil, Int.add_zero]
    rw [Int.mul_add]
    omega
theorem prL_rng (am ds : List Int) (of : Int) (h : 0 < of) (n : Nat) : 0 ≤ (prL am ds of n).sum ∧ (prL am ds of n).sum ≤ of * n := by
  induction n with
  | zero => simp [prL]
  | succ n ih =>
    rw [prL_succ]
    have a := Int.emod_nonneg (pp am ds n) (show of ≠ 0 by omega)
    have b := Int.emod_lt_of_pos (pp am ds n) h
    rw [Int.natCast_add, Int.mul_add]
    omega
/-- What a proration asks. -/
structure POk (am ds : List Int) (of : Int) : Prop where
  len : am.length = ds.length
  lo : 1 ≤ am.length
  hi : am.length ≤ 100
  a : ∀ x ∈ am, 0 ≤ x ∧ x ≤ 1125899906842624
  o1 : 1 ≤ of
  o2 : of ≤ 10000
  d : ∀ x ∈ ds, 0 ≤ x ∧ x ≤ of
def ProIs (am ds : List Int) (of : Int) (l : List Int) (e : Int) : Prop := (POk am ds of → e = 0 ∧ l = proL am ds of am.length) ∧ (¬ POk am ds of → e = 1 ∧ l = [])
theorem ProIs.unique {am ds l l' : List Int} {of e e' : Int} (h : ProIs am ds of l e) (h' : ProIs am ds of l' e') : l = l' ∧ e = e' := by
  by_cases c : POk am ds of
  · exact ⟨(h.1 c).2.trans (h'.1 c).2.symm, (h.1 c).1.trans (h'.1 c).1.symm⟩
  · exact ⟨(h.2 c).2.trans (h'.2 c).2.symm, (h.2 c).1.trans (h'.2 c).1.symm⟩
def ProPost (am ds : List Int) (of : Int) (w : World) (e : Ending) (w' : World) : Prop :=
  ∃ (A : Option Addr) (c er : Nat) (l : List Int), e = .returned (.tuple #[.slice A l.length c, .int .i64 er]) ∧ Kd.C (Kd.int .i64) w' A l.length l ∧ ProIs am ds of l er ∧ Below w.heap.size w w' ∧ l.length ≤ 100 ∧ l.length ≤ c
theorem ProPost.err {am ds : List Int} {of : Int} {w w' : World} (h : ¬ POk am ds of) (hb : Below w.heap.size w w') : ProPost am ds of w (.returned (.tuple #[.slice none 0 0, .int .i64 1])) w' :=
  ⟨none, 0, 1, [], rfl, Kd.C_nil _ _, ⟨fun k => (h k).elim, fun _ => ⟨rfl, rfl⟩⟩, hb, by simp, by simp⟩
theorem beyond_iff (e : Int) (l : List Int) : beyondB e l = true ↔ ¬ ∀ x ∈ l, 0 ≤ x ∧ x ≤ e := by
  unfold beyondB outOf
  rw [List.any_eq_true]
  constructor
  · rintro ⟨x, hx, h⟩ k
    have := k x hx
    simp at h
    omega
  · intro h
    apply Classical.byContradiction
    intro k
    refine h fun x hx => ?_
    apply Classical.byContradiction
    intro k2
    exact k ⟨x, hx, by simp; omega⟩
theorem beyond_no {e : Int} {l : List Int} (h : beyondB e l = false) : ∀ x ∈ l, 0 ≤ x ∧ x ≤ e := by
  apply Classical.byContradiction
  intro k
  rw [(beyond_iff e l).2 k] at h
  cases h
/-- What a round needs. -/
structure RndP (am ds : List Int) (of : Int) (i : Nat) : Prop where
  part : money_Part.f (am.getD i 0) (ds.getD i 0) of = some (pp am ds i / of, pp am ds i % of, 0)
  add : IntKind.i64.wrap ((prL am ds of i).sum + pp am ds i % of) = (prL am ds of (i + 1)).sum
theorem getD_mem (l : List Int) (i : Nat) (h : i < l.length) : l.getD i 0 ∈ l := by
  rw [List.getD_eq_getElem?_getD, List.getElem?_eq_getElem h]; exact List.getElem_mem h
theorem pp_rng {am ds : List Int} {of : Int} (h : POk am ds of) (i : Nat) (hi : i < am.length) : 0 ≤ pp am ds i ∧ pp am ds i ≤ 1125899906842624 * of ∧ 0 ≤ pp am ds i / of ∧ pp am ds i / of ≤ 1125899906842624 := by
  have ha := h.a _ (getD_mem am i hi)
  have hd := h.d _ (getD_mem ds i (by have := h.len; omega))
  have h1 := h.o1
  have e0 : 0 ≤ pp am ds i := Int.mul_nonneg ha.1 hd.1
  have e1 : pp am ds i ≤ 1125899906842624 * of := by
    unfold pp
    exact Int.mul_le_mul ha.2 hd.2 hd.1 (by omega)
  refine ⟨e0, e1, Int.ediv_nonneg e0 (by omega), ?_⟩
  calc pp am ds i / of ≤ 1125899906842624 * of / of := Int.ediv_le_ediv (by omega) e1
    _ = 1125899906842624 := Int.mul_ediv_cancel _ (by omega)
theorem rndp_of {am ds : List Int} {of : Int} (h : POk am ds of) (i : Nat) (hi : i < am.length) : RndP am ds of i := by
  have ha := h.a _ (getD_mem am i hi)
  have hd := h.d _ (getD_mem ds i (by have := h.len; omega))
  have h1 := h.o1
  have h2 := h.o2
  obtain ⟨e0, e1, e2, e3⟩ := pp_rng h i hi
  refine ⟨?_, ?_⟩
  · unfold money_Part.f
    rw [if_pos ⟨by unfold I64; omega, by unfold I64; omega, by unfold I64; omega⟩]
    unfold part
    rw [if_neg (by omega), if_pos (by show pp am ds i / of < _; omega)]
    rfl
  · have a := prL_rng am ds of (by omega) (i + 1)
    have b := h.hi
    have c : of * ((i + 1 : Nat) : Int) ≤ 10000 * 100 := Int.mul_le_mul h2 (by omega) (by omega) (by omega)
    rw [← prL_succ, IntKind.wrap_i64]
    omega
set_option maxRecDepth 100000 in
set_option maxHeartbeats 6400000 in
theorem prorate_err {n m c c' : Nat} (A B : Option Addr) (am ds : List Int) (of : Int) (hn : am.length = n) (hm : ds.length = m) (w : World) (hr : Kd.C (Kd.int .i64) w A n am) (hr' : Kd.C (Kd.int .i64) w B m ds) (hof : I64 of) (h1 : n ≤ 9223372036854775807) (h2 : m ≤ 9223372036854775807) (he : ¬ POk am ds of) :
    Calls Try.prog 12 #[.slice A n c, .slice B m c', .int .i64 of] w fun e w' => ProPost am ds of w e w' := by
  subst hn
  subst hm
  have HR := Aside0.mk hr
  have HR2 := Aside0.mk hr'
  clear hr hr'
  have HE := Aside0.mk he
  clear he
  by_cases c1 : am.length = ds.length
  rotate_left
  · have z1 : ((am.length : Int) != (ds.length : Int)) = true := by rw [bne_iff_ne]; omega
    clear c1 hof
    go_enter Try.func12, Try.ntmps12
    go_wp2_with fail
    go_ret2
    exact ProPost.err HE.out (Below.refl _ _)
  have z1 : ((am.length : Int) != (ds.length : Int)) = false := by rw [bne_eq_false_iff_eq]; omega
  by_cases c2 : am.length < 1
  · have z2 : (am.length : Int) < 1 := by omega
    clear c1 c2 hof
    go_enter Try.func12, Try.ntmps12
    go_wp2_with fail
    go_ret2
    exact ProPost.err HE.out (Below.refl _ _)
  have z2 : ¬ (am.length : Int) < 1 := by omega
  by_cases c3 : 100 < am.length
  · have z3 : (100 : Int) < (am.length : Int) := by omega
    clear c1 c2 c3 hof
    go_enter Try.func12, Try.ntmps12
    go_wp2_with fail
    go_ret2
    exact ProPost.err HE.out (Below.refl _ _)
  have z3 : ¬ (100 : Int) < (am.length : Int) := by omega
  have k1 := Aside0.mk (beyond_calls (c := c) 1125899906842624 A am rfl w HR.out h1)
  have k2 := Aside0.mk (fun w1 hb => beyond_calls (c := c') of B ds rfl w1 (Kd.C_below HR2.out hb) h2)
  cases c4 : beyondB 1125899906842624 am with
  | true =>
    rw [c4] at k1
    clear c1 c2 c3 c4 hof k2
    go_enter Try.func12, Try.ntmps12
    go_wp2_with (first | (go_at_call 16; refine k1.out.mono ?_; rintro e w1 ⟨rfl, hb⟩; have HB := Aside0.mk hb; clear hb k1))
    go_ret2
    exact ProPost.err HE.out HB.out
  | false =>
    rw [c4] at k1
    by_cases c5 : of < 1
    · clear c1 c2 c3 c4 hof k2
      go_enter Try.func12, Try.ntmps12
      go_wp2_with (first | (go_at_call 16; refine k1.out.mono ?_; rintro e w1 ⟨rfl, hb⟩; have HB := Aside0.mk hb; clear hb k1))
      go_ret2
      exact ProPost.err HE.out HB.out
    by_cases c6 : 10000 < of
    · clear c1 c2 c3 c4 hof k2
      go_enter Try.func12, Try.ntmps12
      go_wp2_with (first | (go_at_call 16; refine k1.out.mono ?_; rintro e w1 ⟨rfl, hb⟩; have HB := Aside0.mk hb; clear hb k1))
      go_ret2
      exact ProPost.err HE.out HB.out
    cases c7 : beyondB of ds with
    | true =>
      rw [c7] at k2
      clear c1 c2 c3 c4 c7 hof
      go_enter Try.func12, Try.ntmps12
      go_wp2_with (first | (go_at_call 16; refine k1.out.mono ?_; rintro e w1 ⟨rfl, hb⟩; have HB := Aside0.mk hb; clear hb k1) | (go_at_call 16; refine (k2.out _ HB.out).mono ?_; rintro e w2 ⟨rfl, hb⟩; have HB2 := Aside0.mk (below_step' HB.out hb); clear hb k2))
      go_ret2
      exact ProPost.err HE.out HB2.out
    | false => exact (HE.out ⟨c1, by omega, by omega, beyond_no c4, by omega, by omega, beyond_no c7⟩).elim
set_option maxRecDepth 100000 in
set_option maxHeartbeats 6400000 in
theorem prorate_ok {n m c c' : Nat} (A B : Option Addr) (am ds : List Int) (of : Int) (hn : am.length = n) (hm : ds.length = m) (w : World) (hr : Kd.C (Kd.int .i64) w A n am) (hr' : Kd.C (Kd.int .i64) w B m ds) (hof : I64 of) (h1 : n ≤ 9223372036854775807) (h2 : m ≤ 9223372036854775807) (he : POk am ds of) :
    Calls Try.prog 12 #[.slice A n c, .slice B m c', .int .i64 of] w fun e w' => ProPost am ds of w e w' := by
  subst hn
  subst hm
  have HR := Aside0.mk hr
  have HR2 := Aside0.mk hr'
  clear hr hr'
  have HE := Aside0.mk he
  have z1 : ((am.length : Int) != (ds.length : Int)) = false := by rw [bne_eq_false_iff_eq]; have := he.len; omega
  have hlo := he.lo
  have hhi := he.hi
  have z2 : ¬ (am.length : Int) < 1 := by omega
  have z3 : ¬ (100 : Int) < (am.length : Int) := by omega
  have z4 : ¬ of < 1 := by have := he.o1; omega
  have z5 : ¬ 10000 < of := by have := he.o2; omega
  have k1 := Aside0.mk (beyond_calls (c := c) 1125899906842624 A am rfl w HR.out h1)
  have k2 := Aside0.mk (fun w1 hb => beyond_calls (c := c') of B ds rfl w1 (Kd.C_below HR2.out hb) h2)
  have b1 : beyondB 1125899906842624 am = false := by
    cases h : beyondB 1125899906842624 am with
    | false => rfl
    | true => exact ((beyond_iff _ _).1 h he.a).elim
  have b2 : beyondB of ds = false := by
    cases h : beyondB of ds with
    | false => rfl
    | true => exact ((beyond_iff _ _).1 h he.d).elim
  rw [b1] at k1
  rw [b2] at k2
  have RND := Aside0.mk (fun i hi => rndp_of he i hi)
  have LEN := Aside0.mk he.len
  clear he b1 b2 hof
  go_enter Try.func12, Try.ntmps12
  go_wp2_with (first | (go_at_call 16; refine k1.out.mono ?_; rintro e w1 ⟨rfl, hb⟩; have HB := Aside0.mk hb; clear hb k1) | (go_at_call 16; refine (k2.out _ HB.out).mono ?_; rintro e w2 ⟨rfl, hb⟩; have HB2 := Aside0.mk (below_step' HB.out hb); clear hb k2))
  go_loopw [9, 10, 49] (fun vo vs vi wr => ∃ k : Nat, k ≤ am.length ∧ vi = .int .i64 k ∧ vs = .int .i64 (prL am ds of k).sum ∧ Aside0 (N2 w2 w2.heap.size wr vo (.slice none 0 0) (pqL am ds of k) [])) (fun _ _ i _ => am.length - (intOf i).toNat)
  case atStart => exact ⟨0, Nat.zero_le _, rfl, rfl, ⟨own_nil _ _ _ _, own_nil _ _ _ _, fun k hk => by simp [Value.ownBlock] at hk, Nat.le_refl _, Below.refl _ _⟩⟩
  case round =>
    obtain ⟨k, hk, rfl, rfl, HN⟩ := hrel
    by_cases hlt : k < am.length
    · have hlz : (k : Int) < (am.length : Int) := by omega
      have hlk : k < ds.length := by have := LEN.out; omega
      have hlz2 : (k : Int) < (ds.length : Int) := by omega
      obtain ⟨ad, e1, hx⟩ := Kd.at_int (Kd.C_below HR.out (below_step' HB2.out HN.out.low)) k (by omega) (by omega)
      obtain ⟨ad2, e2, hy⟩ := Kd.at_int (Kd.C_below HR2.out (below_step' HB2.out HN.out.low)) k (by omega) (by omega)
      cases e1
      cases e2
      simp only [Int.toNat_natCast] at hx hy
      obtain ⟨x, hx0⟩ : ∃ x, x = am.getD k 0 := ⟨_, rfl⟩
      obtain ⟨y, hy0⟩ : ∃ y, y = ds.getD k 0 := ⟨_, rfl⟩
      rw [show rd am (k : Int) = x by rw [hx0]; rfl] at hx
      rw [show rd ds (k : Int) = y by rw [hy0]; rfl] at hy
      obtain ⟨p1, p2⟩ := RND.out k hlt
      rw [← hx0, ← hy0] at p1
      obtain ⟨q, hq⟩ : ∃ q, q = pp am ds k / of := ⟨_, rfl⟩
      obtain ⟨r, hrr⟩ : ∃ r, r = pp am ds k % of := ⟨_, rfl⟩
      obtain ⟨s, hs⟩ : ∃ s, s = (prL am ds of k).sum := ⟨_, rfl⟩
      obtain ⟨s2, hs2⟩ : ∃ s2, s2 = (prL am ds of (k + 1)).sum := ⟨_, rfl⟩
      rw [← hq, ← hrr] at p1
      rw [← hs, ← hs2, ← hrr] at p2
      have kp := Aside0.mk (fun w => money_Part.calls x y of q r 0 w p1)
      have HQ := Aside0.mk hq
      have HS2 := Aside0.mk hs2
      have hlo2 : (pqL am ds of k).length < 1000 := by rw [pqL_len]; omega
      rw [← hs]
      clear hq hrr hs hs2 hx0 hy0 p1
      go_wp2_with (first | (go_at_call 15; refine (kp.out _).mono ?_; rintro e w4 ⟨rfl, hb⟩; have HN4 := Aside0.mk (HN.out.below hb.below); clear hb) | (at_builtin; refine HN4.out.app_o q rfl (.tmp 65) (.tmp 67) rfl rfl rfl hlo2 ?_; intro vo1 w5 h5; have HN5 := Aside0.mk h5; clear h5))
      go_roundw
      case measure => simp [intOf]; omega
      case rel =>
        refine ⟨k + 1, by omega, by go_num, by rw [HS2.out], ⟨?_⟩⟩
        have := HN5.out
        rw [HQ.out] at this
        rw [pqL_succ]
        exact this
    · obtain rfl : k = am.length := by omega
      have hlz : ¬ ((am.length : Int)) < (am.length : Int) := by omega
      have hn := HN.out
      have o1 := hn.o
      rw [pqL_len] at o1
      obtain ⟨go, co, cuo, rfl, lo1, lo2, lo3, lo4⟩ := row_of_own o1 (by omega) (pqL_len _ _ _ _)
      have HRI := Aside0.mk (show RowI wr go am.length (fun i => pp am ds i / of) from ⟨cuo, lo3, fun i hi => by rw [lo4 i hi, pqL_at _ _ _ _ _ hi]⟩)
      have HLOW := Aside0.mk (below_step' HB2.out hn.low)
      have hL : w.heap.size ≤ w2.heap.size := HB2.out.size
      obtain ⟨t, ht⟩ : ∃ t, t = am.length - 1 := ⟨_, rfl⟩
      have htn : t < am.length := by omega
      have ct := HRI.out.cell htn
      have ft := HRI.out.free t
      have hpr := pp_rng HE.out t htn
      have hso := prL_rng am ds of (by have := HE.out.o1; omega) am.length
      obtain ⟨q, hq⟩ : ∃ q, q = pp am ds t / of := ⟨_, rfl⟩
      obtain ⟨s, hs⟩ : ∃ s, s = (prL am ds of am.length).sum := ⟨_, rfl⟩
      obtain ⟨v, hv⟩ : ∃ v, v = s / of := ⟨_, rfl⟩
      rw [← hq] at ct hpr
      rw [← hs] at hso
      have hv0 : 0 ≤ v := by rw [hv]; exact Int.ediv_nonneg hso.1 (by omega)
      have hv1 : v ≤ 100 := by
        rw [hv]
        calc s / of ≤ of * (am.length : Int) / of := Int.ediv_le_ediv (by omega) hso.2
          _ = (am.length : Int) := Int.mul_ediv_cancel_left _ (by omega)
          _ ≤ 100 := by omega
      have u1 : s.tdiv of = v := by rw [hv, Int.tdiv_eq_ediv_of_nonneg hso.1]
      have u2 : IntKind.i64.wrap (q + v) = q + v := by rw [IntKind.wrap_i64]; omega
      have u3 : IntKind.i64.wrap v = v := by rw [IntKind.wrap_i64]; omega
      have u4 : IntKind.i64.wrap ((am.length : Int) - 1) = (t : Int) := by rw [IntKind.wrap_i64]; omega
      have u5 : (of == 0) = false := by rw [beq_eq_false_iff_ne]; omega
      have u6 : ¬ of = 0 := by omega
      have u7 : (t : Int) < (am.length : Int) := by omega
      have HT := Aside0.mk (show t + 1 = am.length by omega)
      have HQ := Aside0.mk hq
      have HSV := Aside0.mk (show v = (prL am ds of am.length).sum / of by rw [hv, hs])
      have LO1 := Aside0.mk lo1
      have LO2 := Aside0.mk lo2
      rw [← hs]
      clear hn o1 lo1 lo2 lo3 lo4 HN hq hs hv ht hpr hso hv0 hv1
      go_wp2_with fail
      go_region
      go_wp2_with fail
      go_ret2
      have hput := (HRI.out.put htn (q + v)).drewN 1
      have hb := below_drew (HLOW.out.grown (grown_put wr go t (.int .i64 (q + v))) HLOW.out.size (fun k hk => by injection hk with hk; rw [← hk]; have := LO1.out; omega))
      have hrd := hput.reads (proL am ds of am.length) (proL_len _ _ _ _) (fun i hi => by
        rw [proL_at _ _ _ _ _ hi]
        unfold proF
        have := HT.out
        by_cases e : i = t
        · subst e; rw [if_pos this, if_pos rfl, HQ.out, HSV.out]
        · rw [if_neg (by omega), if_neg e]) (by omega)
      exact ⟨some ⟨go, 0, none⟩, co, 0, proL am ds of am.length, by rw [proL_len]; rfl, by rw [proL_len]; exact hrd, ⟨fun _ => ⟨rfl, rfl⟩, fun k => (k HE.out).elim⟩, hb, by rw [proL_len]; exact hhi, by rw [proL_len]; exact LO2.out⟩
theorem prorate_calls {n m c c' : Nat} (A B : Option Addr) (am ds : List Int) (of : Int) (hn : am.length = n) (hm : ds.length = m) (w : World) (hr : Kd.C (Kd.int .i64) w A n am) (hr' : Kd.C (Kd.int .i64) w B m ds) (hof : I64 of) (h1 : n ≤ 9223372036854775807) (h2 : m ≤ 9223372036854775807) :
    Calls Try.prog 12 #[.slice A n c, .slice B m c', .int .i64 of] w fun e w' => ProPost am ds of w e w' := by
  by_cases he : POk am ds of
  · exact prorate_ok A B am ds of hn hm w hr hr' hof h1 h2 he
  · exact prorate_err A B am ds of hn hm w hr hr' hof h1 h2 he
end Go.Proofs.Ytimdoddaaelfjaa.Ext
