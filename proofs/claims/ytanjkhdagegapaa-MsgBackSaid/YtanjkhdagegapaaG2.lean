import Derived.RangeFuncBox
import Derived.RangeFuncNested
import Derived.RangeFuncLeaves
import Derived.RangeFuncBound
import Derived.Shelf.Abstract
import Derived.WalkKit
import Derived.OwnWalkIn
import Derived.TacticsInMore
import Derived.LoopNIn
import Derived.LoopIn
import Derived.Deep.RegionHeld3
import Derived.Test.YtanjkhdagegapaaPZx0
import Derived.Test.YtanjkhdagegapaaH
import Derived.Test.YtanjkhdagegapaaCut
import Derived.Test.YtanjkhdagegapaaMath
import Derived.Test.YtanjkhdagegapaaPut
import Derived.Stop.RegionWithIn
import Derived.Deep.RegionWith
section
/- The iterator of package plan (numbers), proved by walking its code. -/
namespace Go.Proofs.Ytanjkhdagegapaa.Ext
open Go.RowKit Go.Shelf Go.Proofs.YtanjkhdagegapaaW.PrintWords Go.Proofs.YtanjkhdagegapaaW.PrintLast Go.Proofs.YtanjkhdagegapaaW.PrintMore Go.Proofs.YtanjkhdagegapaaW.Hand Go.Proofs.Ytanjkhdagegapaa.PZ
attribute [local go_sem] Oper.semAt_some
set_option linter.unusedVariables false
/-- The greatest that a number may be. -/
def mostOf (i : Nat) : Int := if i < 4 then 1099511627776 else 1125899906842624
abbrev N5 := { i : Nat // i < 5 }
abbrev encsN (Bp : Nat) (i : Nat) : Array Value := #[.pointer (some ⟨Bp, i + 1, none⟩), .int .i64 (mostOf i)]
/-- What a round keeps: pointers in cells. -/
def KpN (W W' : World) : Prop := W.heap.size ≤ W'.heap.size ∧ ∀ (k t : Nat) (c : Array Value) (fr : Nat × Nat), (t = 120 ∨ t = 113) → W.heap[k]? = some (Obj.cells c t fr) → W'.heap[k]? = some (Obj.cells c t fr)
theorem KpN.refl (W : World) : KpN W W := ⟨Nat.le_refl _, fun _ _ _ _ _ h => h⟩
theorem KpN.trans {A B C : World} (h : KpN A B) (k : KpN B C) : KpN A C := ⟨Nat.le_trans h.1 k.1, fun j t c fr ht hj => k.2 j t c fr ht (h.2 j t c fr ht hj)⟩
theorem kpn_b (W : World) (l : Nat) (o o' : Obj) (h : W.heap[l]? = some o) (hc : o.isCells = false) : KpN W (W.putObj l o') :=
  ⟨by simp, fun k t c fr _ hk => (World.putObj_heap_other (fun e => by subst e; rw [hk] at h; cases h; cases hc)).trans hk⟩
theorem kpn_below {W W' : World} (h : Below W.heap.size W W') : KpN W W' := ⟨h.size, fun k t c fr _ hk => (h.block k (Array.getElem?_eq_some_iff.1 hk).1).trans hk⟩
theorem kpn_grown {W W' : World} {row : Option Nat} (h : W.grownBy W' row) (hr : ∀ g, row = some g → ∀ o, W.heap[g]? = some o → ∃ c t fr, o = Obj.cells c t fr ∧ t ≠ 120 ∧ t ≠ 113) : KpN W W' :=
  ⟨h.size, fun k t c fr ht hk => (h.block k (Array.getElem?_eq_some_iff.1 hk).1 (fun e => by
    obtain ⟨c2, t2, fr2, e2, h1, h2⟩ := hr k e.symm _ hk
    injection e2 with _ e3
    rcases ht with ht | ht
    · exact h1 (e3 ▸ ht)
    · exact h2 (e3 ▸ ht))).trans hk⟩
set_option maxRecDepth 100000 in
set_option maxHeartbeats 2000000 in
theorem numbers1_in (m : Nat) (hn : 1 ≤ m) (l Bx Bp : Nat) (J Jx : List Nat → World → Prop) (W : World) (hJ : AbidesFrom W.heap.size J)
    (hBx : W.heap[Bx]? = some (Obj.cells #[.pointer (some ⟨Bp, 0, none⟩)] 120 (0, 0)))
    (hY : ∀ pre x W, J pre W → pre.length < 5 → x < 5 → YieldAt Fence.wide (m - 1) Try.prog l (encsN Bp x) W fun e W' =>
      (e = .returned (.bool true) ∧ J (pre ++ [x]) W' ∧ KpN W W') ∨ (e = .returned (.bool false) ∧ Jx (pre ++ [x]) W'))
    (h0 : J [] W) :
    CallsIn Fence.wide m Try.prog 99 #[.func (.yield l) #[] #[], .pointer (some ⟨Bx, 0, none⟩)] W fun e W' => (∃ v, e = .returned v) ∧
      ((∃ ys, ys = List.range 5 ∧ J ys W') ∨ (∃ pre, pre <+: List.range 5 ∧ Jx pre W')) := by
  have HBX := Aside0.mk hBx
  have HJ := Aside0.mk hJ
  have hc := (cell_of_row W Bx 0 _ _ _ hBx).trans (rfl : (#[Value.pointer (some ⟨Bp, 0, none⟩)] : Array Value)[0]? = some (.pointer (some ⟨Bp, 0, none⟩)))
  clear hBx hJ
  refine callsIn_of_wp Try.func99 rfl trivial ?_ rfl
  simp only [Try.ntmps99, List.size_toArray, List.length_cons, List.length_nil, Nat.reduceAdd, Nat.reduceSub, Array.replicate_succ, Array.replicate_zero, List.push_toArray, List.append_toArray, List.nil_append, List.cons_append]
  refine wpIn_wide.2 ?_
  go_wp2_with fail
  refine wp_region_noPanic ?_
  go_region_held (fun w' => w'.cell? ⟨Bx, 0, none⟩ = some (.pointer (some ⟨Bp, 0, none⟩))) (go_keep) (fail)
  refine NoPanic.normal ?_
  obtain ⟨S0, hS0⟩ : ∃ S, W.heap.size = S := ⟨_, rfl⟩
  have hblk : ((W.alloc (Obj.cells #[.pointer (some ⟨Bp, 1, none⟩), .pointer (some ⟨Bp, 2, none⟩), .pointer (some ⟨Bp, 3, none⟩), .pointer (some ⟨Bp, 4, none⟩)] 113)).drew).heap[S0]? = some (Obj.cells #[.pointer (some ⟨Bp, 1, none⟩), .pointer (some ⟨Bp, 2, none⟩), .pointer (some ⟨Bp, 3, none⟩), .pointer (some ⟨Bp, 4, none⟩)] 113 (0, 0)) := by rw [← hS0]; exact heap_alloc_new W _
  have hbel : Below W.heap.size W ((W.alloc (Obj.cells #[.pointer (some ⟨Bp, 1, none⟩), .pointer (some ⟨Bp, 2, none⟩), .pointer (some ⟨Bp, 3, none⟩), .pointer (some ⟨Bp, 4, none⟩)] 113)).drew) := below_drew (below_alloc (Below.refl _ _) _)
  rw [hS0]
  obtain ⟨W2, hW2⟩ : ∃ W2, ((W.alloc (Obj.cells #[.pointer (some ⟨Bp, 1, none⟩), .pointer (some ⟨Bp, 2, none⟩), .pointer (some ⟨Bp, 3, none⟩), .pointer (some ⟨Bp, 4, none⟩)] 113)).drew) = W2 := ⟨_, rfl⟩
  rw [hW2] at hblk hbel ⊢
  have HBX2 := Aside0.mk ((hbel.block Bx (Array.getElem?_eq_some_iff.1 HBX.out).1).trans HBX.out)
  have HJ0 := Aside0.mk (HJ.out _ _ W2 none h0 (grown_below hbel) (fun r e => by cases e))
  have HBLK := Aside0.mk hblk
  clear hblk hbel hc hW2 HBX hS0
  go_wp2_with fail
  refine (wpIn_wide (n := m)).1 ?_
  gi_loopw [19] (fun i wr => ∃ k : Nat, k ≤ 4 ∧ i = .int .i64 k ∧ Aside0 (J (List.range k) wr) ∧ Aside0 (KpN W2 wr)) (fun i _ => 4 - (intOf i).toNat)
  case atStart => exact ⟨0, Nat.zero_le _, rfl, HJ0, ⟨KpN.refl _⟩⟩
  case round =>
    obtain ⟨k, hk, rfl, HJk, HK⟩ := hrel
    have hb := HK.out.2 _ _ _ _ (.inr rfl) HBLK.out
    have c0 := (cell_of_row wr S0 0 _ _ _ hb).trans (rfl : _ = some (Value.pointer (some ⟨Bp, 1, none⟩)))
    have c1 := (cell_of_row wr S0 1 _ _ _ hb).trans (rfl : _ = some (Value.pointer (some ⟨Bp, 2, none⟩)))
    have c2 := (cell_of_row wr S0 2 _ _ _ hb).trans (rfl : _ = some (Value.pointer (some ⟨Bp, 3, none⟩)))
    have c3 := (cell_of_row wr S0 3 _ _ _ hb).trans (rfl : _ = some (Value.pointer (some ⟨Bp, 4, none⟩)))
    clear hb
    by_cases hlt : k < 4
    · have hmo : mostOf k = 1099511627776 := by unfold mostOf; rw [if_pos hlt]
      obtain ⟨fn, tmps, assign, body, hy, hR⟩ := hY _ k wr HJk.out (by simp; omega) (by omega)
      dsimp only [encsN] at hy
      rw [hmo] at hy
      have hsn : List.range (k + 1) = List.range k ++ [k] := List.range_succ
      have HSN := Aside0.mk hsn
      have HPre : Aside0 (List.range k ++ [k] <+: List.range 5) := ⟨by
        rw [← hsn]
        have e : List.range (k + 1) = (List.range 5).take (k + 1) := by rw [List.take_range, Nat.min_eq_left (by omega)]
        rw [e]
        exact List.take_prefix _ _⟩
      clear hsn hmo
      have hk4 : k = 0 ∨ k = 1 ∨ k = 2 ∨ k = 3 := by omega
      rcases hk4 with rfl | rfl | rfl | rfl
      all_goals
        gi_wp2
        refine hR.mono ?_
        rintro e W3 (⟨rfl, hJ3, hk3⟩ | ⟨rfl, hJx3⟩)
        · have HJ3 := Aside0.mk hJ3
          have HK3 := Aside0.mk (HK.out.trans hk3)
          clear hJ3 hk3 hR hy c0 c1 c2 c3
          gi_wp2
          go_roundw
          case rel =>
            have HJ4 := HJ3.out
            rw [← HSN.out] at HJ4
            first | exact ⟨1, by omega, rfl, ⟨HJ4⟩, HK3⟩ | exact ⟨2, by omega, rfl, ⟨HJ4⟩, HK3⟩ | exact ⟨3, by omega, rfl, ⟨HJ4⟩, HK3⟩ | exact ⟨4, by omega, rfl, ⟨HJ4⟩, HK3⟩
          case measure => simp [intOf]
        · have HJ3 := Aside0.mk hJx3
          clear hJx3 hR hy c0 c1 c2 c3
          gi_wp2
          refine bodyPost_ret (results_none rfl _ _ _) rfl ?_
          exact ⟨⟨_, rfl⟩, .inr ⟨_, HPre.out, HJ3.out⟩⟩
    · obtain rfl : k = 4 := by omega
      have hb2 := HK.out.2 _ _ _ _ (.inl rfl) HBX2.out
      have hc2 := (cell_of_row wr Bx 0 _ _ _ hb2).trans (rfl : _ = some (Value.pointer (some ⟨Bp, 0, none⟩)))
      clear hb2
      obtain ⟨fn, tmps, assign, body, hy, hR⟩ := hY _ 4 wr HJk.out (by simp) (by omega)
      dsimp only [encsN] at hy
      rw [show mostOf 4 = 1125899906842624 from rfl] at hy
      gi_wp2
      refine (wpIn_wide (n := m)).1 ?_
      gi_wp2
      refine hR.mono ?_
      rintro e W3 (⟨rfl, hJ3, hk3⟩ | ⟨rfl, hJx3⟩)
      · have HJ3 := Aside0.mk hJ3
        clear hJ3 hk3 hR hy c0 c1 c2 c3 hc2
        gi_wp2
        go_end0
        exact ⟨⟨_, rfl⟩, .inl ⟨_, rfl, HJ3.out⟩⟩
      · have HJ3 := Aside0.mk hJx3
        clear hJx3 hR hy c0 c1 c2 c3 hc2
        gi_wp2
        go_end0
        exact ⟨⟨_, rfl⟩, .inr ⟨_, List.prefix_refl _, HJ3.out⟩⟩
end Go.Proofs.Ytanjkhdagegapaa.Ext
end

section
/- What the printed Check and At of tiers compute, in plain words. -/
namespace Go.Proofs.Ytanjkhdagegapaa.Ext
open Go.RowKit Go.Proofs.YtanjkhdagegapaaW.PrintWords Go.Proofs.YtanjkhdagegapaaW.PrintLast Go.Proofs.YtanjkhdagegapaaW.PrintMore Go.Proofs.Ytanjkhdagegapaa.PZ
set_option linter.unusedVariables false
def okP (t : S39) : Bool := decide (0 ≤ t.f1) && decide (t.f1 ≤ 1125899906842624)
/-- The tiers from one on, behind an end: may they be? -/
def chkFrom : Int → List S39 → Bool
  | _, [] => true
  | _, [t] => okP t && (t.f0 == 0)
  | was, t :: u :: l => okP t && (decide (was < t.f0) && decide (t.f0 ≤ 1099511627776)) && chkFrom t.f0 (u :: l)
def chk (ls : List S39) : Bool := decide (ls.length ≠ 0 ∧ ls.length ≤ 4) && chkFrom 0 ls
theorem drop27 (ls : List S39) (i : Nat) (h : i < ls.length) : ls.drop i = rd_T39 ls i :: ls.drop (i + 1) := by
  rw [List.drop_eq_getElem_cons h]
  simp [rd_T39, List.getD_eq_getElem?_getD, List.getElem?_eq_getElem h]
theorem wrap_i (a : Int) (h0 : -9223372036854775808 ≤ a) (h1 : a < 9223372036854775808) : wrap64 a = a := by unfold wrap64; omega
theorem tc_loop (ls : List S39) (hn : ls.length ≤ 9223372036854775807) : ∀ (d i : Nat) (was : Int) (k : Nat), i + d = ls.length → 2 * d < k →
    p_tiers_Check.l0 k ls was ls (ls.length : Int) (i : Int) = some (chkFrom was (ls.drop i)) := by
  intro d
  induction d with
  | zero =>
    intro i was k hi hk
    obtain ⟨k, rfl⟩ : ∃ m, k = m + 1 := ⟨k - 1, by omega⟩
    simp only [p_tiers_Check.l0]
    rw [if_neg (by omega), List.drop_of_length_le (by omega)]
    rfl
  | succ d ih =>
    intro i was k hi hk
    obtain ⟨k, rfl⟩ : ∃ m, k = m + 2 := ⟨k - 2, by omega⟩
    have hlt : i < ls.length := by omega
    have hd := drop27 ls i hlt
    simp only [p_tiers_Check.l0]
    rw [if_pos (by omega), if_pos (by omega), if_pos (by omega), hd]
    obtain ⟨t, ht⟩ : ∃ t, rd_T39 ls i = t := ⟨_, rfl⟩
    rw [ht] at hd ⊢
    have e1 : wrap64 ((ls.length : Int) - 1) = (ls.length : Int) - 1 := wrap_i _ (by omega) (by omega)
    have e2 : wrap64 ((i : Int) + 1) = ((i + 1 : Nat) : Int) := by rw [wrap_i _ (by omega) (by omega)]; omega
    have hne : chkFrom was (t :: ls.drop (i + 1)) = (okP t && if d = 0 then (t.f0 == 0) else ((decide (was < t.f0) && decide (t.f0 ≤ 1099511627776)) && chkFrom t.f0 (ls.drop (i + 1)))) := by
      by_cases h0 : d = 0
      · rw [if_pos h0, List.drop_of_length_le (by omega)]; rfl
      · rw [if_neg h0]
        have h1 : i + 1 < ls.length := by omega
        rw [drop27 ls (i + 1) h1]
        simp only [chkFrom, Bool.and_assoc]
    rw [hne]
    unfold okP
    by_cases c1 : t.f1 < 0
    · rw [if_pos c1]
      simp only [p_tiers_Check.j2]
      simp; omega
    · rw [if_neg c1]
      simp only [p_tiers_Check.j2]
      by_cases c2 : t.f1 > 1125899906842624
      · simp [c2]; intro _ h; omega
      · have c2' : ¬ decide (t.f1 > 1125899906842624) = true := by simpa using c2
        rw [if_neg c2', e1]
        have h1 : decide (0 ≤ t.f1) = true := by simp; omega
        have h2 : decide (t.f1 ≤ 1125899906842624) = true := by simp; omega
        rw [h1, h2]
        by_cases c3 : d = 0
        · rw [if_pos (by omega), if_pos c3]; rfl
        · rw [if_neg (by omega), if_neg c3]
          by_cases c4 : t.f0 ≤ was
          · rw [if_pos c4]; simp; omega
          · rw [if_neg c4]
            by_cases c5 : t.f0 > 1099511627776
            · rw [if_pos c5]; simp; omega
            · rw [if_neg c5, e2, ih (i + 1) t.f0 k (by omega) (by omega)]
              have h3 : decide (was < t.f0) = true := by simp; omega
              have h4 : decide (t.f0 ≤ 1099511627776) = true := by simp; omega
              rw [h3, h4]; rfl
theorem tc_f (ls : List S39) (hn : ls.length ≤ 9223372036854775807) : p_tiers_Check.f (2 * ls.length + 2) ls = some (chk ls) := by
  unfold p_tiers_Check.f chk
  by_cases h0 : (ls.length : Int) = 0
  · rw [if_pos h0]
    have : ls.length = 0 := by omega
    rw [this]
    rfl
  · rw [if_neg h0, show 2 * ls.length + 2 = (2 * ls.length + 1) + 1 from rfl]
    simp only [p_tiers_Check.j0]
    by_cases h4 : (ls.length : Int) > 4
    · have e : decide (ls.length ≠ 0 ∧ ls.length ≤ 4) = false := decide_eq_false (by omega)
      rw [if_pos (by simpa using h4), e]; rfl
    · have e : decide (ls.length ≠ 0 ∧ ls.length ≤ 4) = true := decide_eq_true (by omega)
      rw [if_neg (by simpa using h4), e]
      have := tc_loop ls hn ls.length 0 0 (2 * ls.length + 1) (by omega) (by omega)
      exact this
/-- What the reference's walk says of the tiers from number i on. -/
theorem rc_loop (ls : List S39) (hn : ls.length ≤ 9223372036854775807) : ∀ (d i : Nat) (was : Int) (k : Nat), i + d = ls.length → 2 * d < k → (i = 0 → was = 0) → (0 < i → was = (rd_T39 ls ((i : Int) - 1)).f0 ∧ (0 < d → 0 < was)) →
    p_quitrentref11_Check.l0 k ls (i : Int) = some (chkFrom was (ls.drop i) && decide (ls.length ≠ 0 ∧ ls.length ≤ 4)) := by
  intro d
  induction d with
  | zero =>
    intro i was k hi hk _ _
    obtain ⟨k, rfl⟩ : ∃ m, k = m + 1 := ⟨k - 1, by omega⟩
    simp only [p_quitrentref11_Check.l0]
    rw [if_neg (by omega), List.drop_of_length_le (by omega)]
    by_cases h1 : (ls.length : Int) ≥ 1
    · rw [if_pos h1]
      have : (decide ((ls.length : Int) ≤ 4)) = decide (ls.length ≠ 0 ∧ ls.length ≤ 4) := by
        rw [decide_eq_decide]; exact ⟨fun h => ⟨by omega, by omega⟩, fun h => by omega⟩
      rw [this]; rfl
    · rw [if_neg h1]
      have : decide (ls.length ≠ 0 ∧ ls.length ≤ 4) = false := decide_eq_false (by omega)
      rw [this]; rfl
  | succ d ih =>
    intro i was k hi hk hw0 hw1
    obtain ⟨k, rfl⟩ : ∃ m, k = m + 2 := ⟨k - 2, by omega⟩
    have hlt : i < ls.length := by omega
    have hd := drop27 ls i hlt
    simp only [p_quitrentref11_Check.l0]
    rw [if_pos (by omega), if_pos (by omega), hd]
    obtain ⟨t, ht⟩ : ∃ t, rd_T39 ls i = t := ⟨_, rfl⟩
    rw [ht] at hd ⊢
    have e1 : wrap64 ((ls.length : Int) - 1) = (ls.length : Int) - 1 := wrap_i _ (by omega) (by omega)
    have e2 : wrap64 ((i : Int) + 1) = ((i + 1 : Nat) : Int) := by rw [wrap_i _ (by omega) (by omega)]; omega
    have e3 : wrap64 ((i : Int) - 1) = (i : Int) - 1 := wrap_i _ (by omega) (by omega)
    have e4 : ((i : Int) == (ls.length : Int) - 1) = decide (d = 0) := by
      by_cases h : d = 0
      · rw [decide_eq_true h]; exact beq_iff_eq.2 (by omega)
      · rw [decide_eq_false h]; exact beq_eq_false_iff_ne.2 (by omega)
    rw [e1, e4]
    have hne : chkFrom was (t :: ls.drop (i + 1)) = (okP t && if d = 0 then (t.f0 == 0) else ((decide (was < t.f0) && decide (t.f0 ≤ 1099511627776)) && chkFrom t.f0 (ls.drop (i + 1)))) := by
      by_cases h0 : d = 0
      · rw [if_pos h0, List.drop_of_length_le (by omega)]; rfl
      · rw [if_neg h0]
        have h1 : i + 1 < ls.length := by omega
        rw [drop27 ls (i + 1) h1]
        simp only [chkFrom, Bool.and_assoc]
    rw [hne]
    have jt : ∀ b, p_quitrentref11_Check.j1 (k + 1) ls i b true = some false := fun b => by simp only [p_quitrentref11_Check.j1, if_true]
    unfold okP
    by_cases c1 : t.f1 < 0
    · rw [if_pos c1, jt]; simp; omega
    rw [if_neg c1]
    by_cases c2 : t.f1 > 1125899906842624
    · rw [if_pos c2, jt]; simp; omega
    rw [if_neg c2]
    have h1 : decide (0 ≤ t.f1) = true := by simp; omega
    have h2 : decide (t.f1 ≤ 1125899906842624) = true := by simp; omega
    rw [h1, h2]
    by_cases c3 : d = 0
    · have hx : decide (d = 0) = true := by simp [c3]
      rw [hx, if_pos c3]
      by_cases c4 : t.f0 = 0
      · have c4' : (t.f0 == 0) = true := by simp [c4]
        rw [c4', if_neg (by simp), if_neg (by omega)]
        simp only [p_quitrentref11_Check.j1]
        have c5 : ¬ (decide (t.f0 > 1099511627776)) = true := by simp; omega
        rw [if_neg c5]
        have := ih (i + 1) t.f0 k (by omega) (by omega) (by omega) (fun _ => ⟨by rw [show ((i + 1 : Nat) : Int) - 1 = (i : Int) by omega, ht], by omega⟩)
        rw [List.drop_of_length_le (by omega)] at this
        simp only [if_true, ite_self]
        rw [e2, this]
        rfl
      · have c4' : (t.f0 == 0) = false := by simp [c4]
        rw [c4', if_pos (by simp), jt]; rfl
    · have hx : decide (d = 0) = false := by simp [c3]
      rw [hx, if_neg c3]
      by_cases c4 : t.f0 = 0
      · have c4' : (t.f0 == 0) = true := by simp [c4]
        rw [c4', if_pos (by simp), jt]
        have : decide (was < t.f0) = false := by
          rcases Nat.eq_zero_or_pos i with h | h
          · have := hw0 h; simp; omega
          · have := (hw1 h).2 (by omega); simp; omega
        rw [this]; rfl
      have c4' : (t.f0 == 0) = false := by simp [c4]
      rw [c4', if_neg (by simp)]
      by_cases c5 : t.f0 < 0
      · rw [if_pos c5, jt]
        have : decide (was < t.f0) = false := by
          rcases Nat.eq_zero_or_pos i with h | h
          · have := hw0 h; simp; omega
          · have := (hw1 h).2 (by omega); simp; omega
        rw [this]; rfl
      rw [if_neg c5]
      simp only [p_quitrentref11_Check.j1]
      by_cases c6 : t.f0 > 1099511627776
      · rw [if_pos (by simpa using c6)]
        have : decide (t.f0 ≤ 1099511627776) = false := by simp; omega
        rw [this]; simp
      rw [if_neg (by simpa using c6)]
      have h6 : decide (t.f0 ≤ 1099511627776) = true := by simp; omega
      rw [h6]
      have hih := ih (i + 1) t.f0 k (by omega) (by omega) (by omega) (fun _ => ⟨by rw [show ((i + 1 : Nat) : Int) - 1 = (i : Int) by omega, ht], by omega⟩)
      by_cases c7 : (i : Int) > 0
      · rw [if_pos c7, if_neg (by simp), if_pos (by omega), if_pos (by omega), e3, if_pos (by omega), if_pos (by omega), ht]
        have hw := (hw1 (by omega)).1
        rw [← hw]
        by_cases c8 : t.f0 ≤ was
        · rw [if_pos c8]
          have : decide (was < t.f0) = false := by simp; omega
          rw [this]; rfl
        · rw [if_neg c8, e2, hih]
          have : decide (was < t.f0) = true := by simp; omega
          rw [this]; simp
      · rw [if_neg c7, e2, hih]
        have := hw0 (by omega)
        have : decide (was < t.f0) = true := by simp; omega
        rw [this]; simp
theorem rc_f (ls : List S39) (hn : ls.length ≤ 9223372036854775807) : p_quitrentref11_Check.f (2 * ls.length + 1) ls = some (chk ls) := by
  unfold p_quitrentref11_Check.f chk
  rw [Bool.and_comm]
  exact rc_loop ls hn ls.length 0 0 (2 * ls.length + 1) (by omega) (by omega) (fun _ => rfl) (fun h => by omega)
/-- The price of the unit of that number. -/
def atL : List S39 → Int → Int
  | [], _ => 0
  | t :: l, n => if t.f0 = 0 ∨ n ≤ t.f0 then t.f1 else atL l n
def tiers_Check.f (ls : List S39) : Option Bool := some (chk ls)
theorem tiers_Check.calls (A0 : Option Addr) (c0 : Nat) (l0 : List S39) (r : Bool) (w : World) (hr0 : Kd.C k39 w A0 l0.length l0) (hc0 : l0.length ≤ c0) (h : tiers_Check.f l0 = some r) :
    Calls Try.prog 98 #[.slice A0 l0.length c0] w fun e w' => e = .returned (.bool r) ∧ Below w.heap.size w w' := by
  obtain rfl := Option.some.inj h
  exact p_tiers_Check.calls _ A0 c0 l0 _ w hr0 hc0 (tc_f l0 hr0.2.1)
def quitrentref11_Check.f (ls : List S39) : Option Bool := some (chk ls)
theorem quitrentref11_Check.calls (A0 : Option Addr) (c0 : Nat) (l0 : List S39) (r : Bool) (w : World) (hr0 : Kd.C k39 w A0 l0.length l0) (hc0 : l0.length ≤ c0) (h : quitrentref11_Check.f l0 = some r) :
    Calls Try.prog 59 #[.slice A0 l0.length c0] w fun e w' => e = .returned (.bool r) ∧ Drawn0 w w' := by
  obtain rfl := Option.some.inj h
  exact p_quitrentref11_Check.calls _ A0 c0 l0 _ w hr0 hc0 (rc_f l0 hr0.2.1)
end Go.Proofs.Ytanjkhdagegapaa.Ext
end

section
/- plan.Check, proved by walking its code. -/
namespace Go.Proofs.Ytanjkhdagegapaa.Ext
open Go.RowKit Go.Shelf Go.Proofs.YtanjkhdagegapaaW.PrintWords Go.Proofs.YtanjkhdagegapaaW.PrintLast Go.Proofs.YtanjkhdagegapaaW.PrintMore Go.Proofs.YtanjkhdagegapaaW.Hand Go.Proofs.Ytanjkhdagegapaa.PZ
attribute [local go_sem] Oper.semAt_some
set_option linter.unusedVariables false
set_option maxHeartbeats 1000000 in
theorem numbers_in (m : Nat) (p : Option Addr) (w : World) :
    CallsIn Fence.wide m Try.prog 82 #[.pointer p] w fun e w' => e = .returned (.func (.func 99) #[] #[.pointer (some ⟨w.heap.size, 0, none⟩)]) ∧ w' = w.alloc (.cells #[.pointer p] 120) := by
  refine callsIn_of_wp Try.func82 rfl trivial ?_ rfl
  simp only [Try.ntmps82, List.size_toArray, List.length_cons, List.length_nil, Nat.reduceAdd, Nat.reduceSub, Array.replicate_succ, Array.replicate_zero, List.push_toArray, List.append_toArray, List.nil_append, List.cons_append]
  gi_wp2
  go_ret
  exact ⟨rfl, rfl⟩
theorem numbers_stops (m : Nat) (hn : 1 ≤ m) (Bx Bp : Nat) (wL : World) (hBx : wL.heap[Bx]? = some (Obj.cells #[.pointer (some ⟨Bp, 0, none⟩)] 120 (0, 0))) :
    SeqStopsK Fence.wide m Try.prog 99 #[.pointer (some ⟨Bx, 0, none⟩)] (fun x : N5 => encsN Bp x.1) KpN (fun ys => ys.map Subtype.val = List.range 5) (fun pre => pre.map Subtype.val <+: List.range 5) 5 wL := fun l J Jx W hW hJ hJx hY h0 => by
  have hb := (hW.block Bx (Array.getElem?_eq_some_iff.1 hBx).1).trans hBx
  refine (numbers1_in m hn l Bx Bp (fun pre W => ∃ p : List N5, p.map Subtype.val = pre ∧ J p W) (fun pre W => ∃ p : List N5, p.map Subtype.val = pre ∧ Jx p W) W (fun s A B row hs hg hr => by
    obtain ⟨p, e, hp⟩ := hs
    exact ⟨p, e, hJ p A B row hp hg hr⟩) hb (fun pre x W h1 h2 h3 => ?_) ⟨[], rfl, h0⟩).mono ?_
  · obtain ⟨p, rfl, hp⟩ := h1
    refine YieldAt.mono (hY p ⟨x, h3⟩ W hp (by simpa using h2)) ?_
    rintro e W' (⟨rfl, hj, hk⟩ | ⟨rfl, hj⟩)
    · exact .inl ⟨rfl, ⟨_, by simp, hj⟩, hk⟩
    · exact .inr ⟨rfl, _, by simp, hj⟩
  · rintro e W' ⟨he, h⟩
    refine ⟨he, ?_⟩
    rcases h with ⟨ys, rfl, p, hp, hj⟩ | ⟨pre, hpre, p, rfl, hj⟩
    · exact .inl ⟨p, hp, hj⟩
    · exact .inr ⟨p, hpre, hj⟩
theorem below_weak_ {A B : Nat} {w W : World} (h : Below A w W) (hle : B ≤ A) : Below B w W := ⟨h.os, h.tape, h.output, h.size, fun i hi => h.block i (Nat.lt_of_lt_of_le hi hle)⟩
/-- The numbers of a plan. -/
def numOf (a1 a2 a3 a4 a5 : Int) : Nat → Int
  | 0 => a1
  | 1 => a2
  | 2 => a3
  | 3 => a4
  | _ => a5
def okNum (x : Int) (i : Nat) : Bool := decide (0 ≤ x) && decide (x ≤ mostOf i)
def numsOk (a1 a2 a3 a4 a5 : Int) : Bool := (List.range 5).all fun i => okNum (numOf a1 a2 a3 a4 a5 i) i
/-- May a plan be? -/
def pchk (a0 a1 a2 a3 a4 a5 : Int) (ls : List S39) : Bool := numsOk a1 a2 a3 a4 a5 && (decide (0 < a0) && chk ls)
abbrev planC (a0 a1 a2 a3 a4 a5 : Int) (A : Option Addr) (n c : Nat) : Array Value := #[.int .u32 a0, .int .i64 a1, .int .i64 a2, .int .i64 a3, .int .i64 a4, .int .i64 a5, .slice A n c]
theorem plan_num {W : World} {Bp : Nat} {a0 a1 a2 a3 a4 a5 : Int} {A : Option Addr} {n c : Nat} (h : W.heap[Bp]? = some (Obj.cells (planC a0 a1 a2 a3 a4 a5 A n c) 25 (0, 0))) (i : Nat) (hi : i < 5) :
    W.cell? ⟨Bp, i + 1, none⟩ = some (.int .i64 (numOf a1 a2 a3 a4 a5 i)) := by
  refine (cell_of_row W Bp (i + 1) _ _ _ h).trans ?_
  match i, hi with
  | 0, _ => rfl
  | 1, _ => rfl
  | 2, _ => rfl
  | 3, _ => rfl
  | 4, _ => rfl
theorem blk_own {W W' : World} {row : Option Nat} {B L : Nat} {o : Obj} (h : W.heap[B]? = some o) (ho : o.isCells = true) (hg : W.grownBy W' row) (hr : ∀ r, row = some r → L ≤ r ∧ ∃ o : Obj, W.heap[r]? = some o ∧ o.isCells = false) : W'.heap[B]? = some o :=
  (hg.block B (Array.getElem?_eq_some_iff.1 h).1 (fun e => by
    obtain ⟨_, o2, h2, h3⟩ := hr B e.symm
    rw [h] at h2
    injection h2 with h2
    subst h2
    rw [ho] at h3
    cases h3)).trans h
def AllOk (a1 a2 a3 a4 a5 : Int) (pre : List N5) : Prop := ∀ i ∈ pre, okNum (numOf a1 a2 a3 a4 a5 i.1) i.1 = true
theorem AllOk.snoc {a1 a2 a3 a4 a5 : Int} {pre : List N5} {x : N5} (h : AllOk a1 a2 a3 a4 a5 pre) (hx : okNum (numOf a1 a2 a3 a4 a5 x.1) x.1 = true) : AllOk a1 a2 a3 a4 a5 (pre ++ [x]) := fun j hj => by
  rcases List.mem_append.1 hj with h1 | h1
  · exact h j h1
  · rw [List.mem_singleton] at h1
    subst h1
    exact hx
theorem AllOk.all {a1 a2 a3 a4 a5 : Int} {ys : List N5} (h : AllOk a1 a2 a3 a4 a5 ys) (hy : ys.map Subtype.val = List.range 5) : numsOk a1 a2 a3 a4 a5 = true := by
  unfold numsOk
  rw [List.all_eq_true]
  intro i hi
  rw [← hy] at hi
  obtain ⟨j, hj, rfl⟩ := List.mem_map.1 hi
  exact h j hj
set_option maxRecDepth 100000 in
set_option maxHeartbeats 3200000 in
theorem plan_Check_go (a0 a1 a2 a3 a4 a5 : Int) (A : Option Addr) (c : Nat) (ls : List S39) (w : World) (hC : Kd.C k39 w A ls.length ls) (hcap : ls.length ≤ c) :
    Calls Try.prog 79 #[.agg #[.int .u32 a0, .int .i64 a1, .int .i64 a2, .int .i64 a3, .int .i64 a4, .int .i64 a5, .slice A ls.length c]] w fun e w' => e = .returned (.bool (pchk a0 a1 a2 a3 a4 a5 ls)) ∧ Below w.heap.size w w' := by
  have kc := Aside0.mk (fun (w : World) (hC : Kd.C k39 w A ls.length ls) => tiers_Check.calls A c ls (chk ls) w hC hcap rfl)
  have HC := Aside0.mk hC
  clear hC hcap
  refine (callsIn_wide (n := 5)).1 ?_
  refine callsIn_of_wp_marks Try.func79 rfl trivial ?_ rfl
  simp only [Try.ntmps79, List.size_toArray, List.length_cons, List.length_nil, Nat.reduceAdd, Nat.reduceSub, Array.replicate_succ, Array.replicate_zero, List.push_toArray, List.append_toArray, List.nil_append, List.cons_append]
  gi_wp2_with fail
  refine ⟨trivial, ?_⟩
  refine (numbers_in _ _ _).mono ?_
  rintro e w2 ⟨rfl, rfl⟩
  gi_wp2_with fail
  have bP : ((((w.alloc (.cells #[.int .u32 a0, .int .i64 a1, .int .i64 a2, .int .i64 a3, .int .i64 a4, .int .i64 a5, .slice A ls.length c] 25)).alloc (.cells #[.bool false] 4)).alloc (.cells #[.pointer (some ⟨w.heap.size, 0, none⟩)] 120))).heap[w.heap.size]? = some (Obj.cells #[.int .u32 a0, .int .i64 a1, .int .i64 a2, .int .i64 a3, .int .i64 a4, .int .i64 a5, .slice A ls.length c] 25 (0, 0)) :=
    (Blk.alloc (Blk.alloc (Blk.new_ (W := w) (o := .cells #[.int .u32 a0, .int .i64 a1, .int .i64 a2, .int .i64 a3, .int .i64 a4, .int .i64 a5, .slice A ls.length c] 25)))).out
  have bR := (Boxed.new (w.alloc (.cells #[.int .u32 a0, .int .i64 a1, .int .i64 a2, .int .i64 a3, .int .i64 a4, .int .i64 a5, .slice A ls.length c] 25)) 4 (.bool false)).alloc (.cells #[.pointer (some ⟨w.heap.size, 0, none⟩)] 120)
  have bX := Boxed.new ((w.alloc (.cells #[.int .u32 a0, .int .i64 a1, .int .i64 a2, .int .i64 a3, .int .i64 a4, .int .i64 a5, .slice A ls.length c] 25)).alloc (.cells #[.bool false] 4)) 120 (.pointer (some ⟨w.heap.size, 0, none⟩))
  rw [World.size_alloc, World.size_alloc] at bX
  rw [World.size_alloc] at bR
  have hB1 : Below w.heap.size w (((w.alloc (.cells #[.int .u32 a0, .int .i64 a1, .int .i64 a2, .int .i64 a3, .int .i64 a4, .int .i64 a5, .slice A ls.length c] 25)).alloc (.cells #[.bool false] 4)).alloc (.cells #[.pointer (some ⟨w.heap.size, 0, none⟩)] 120)) := below_alloc (below_alloc (below_alloc (Below.refl _ _) _) _) _
  have hsz : (((w.alloc (.cells #[.int .u32 a0, .int .i64 a1, .int .i64 a2, .int .i64 a3, .int .i64 a4, .int .i64 a5, .slice A ls.length c] 25)).alloc (.cells #[.bool false] 4)).alloc (.cells #[.pointer (some ⟨w.heap.size, 0, none⟩)] 120)).heap.size = w.heap.size + 3 := by simp
  obtain ⟨wL, hwL⟩ : ∃ W, (((w.alloc (.cells #[.int .u32 a0, .int .i64 a1, .int .i64 a2, .int .i64 a3, .int .i64 a4, .int .i64 a5, .slice A ls.length c] 25)).alloc (.cells #[.bool false] 4)).alloc (.cells #[.pointer (some ⟨w.heap.size, 0, none⟩)] 120)) = W := ⟨_, rfl⟩
  rw [hwL]
  rw [hwL] at bP bR bX hB1 hsz
  clear hwL
  obtain ⟨q, hq⟩ : ∃ q, w.heap.size = q := ⟨_, rfl⟩
  rw [hq] at bP bR bX hB1 hsz ⊢
  obtain ⟨L0, hL0⟩ : ∃ L, wL.heap.size = L := ⟨_, rfl⟩
  refine wpIn_rangeFunc_ownF rfl (by omega) (gf := 99) (lb := #[.pointer (some ⟨q + 1 + 1, 0, none⟩)]) rfl trivial (enters_of Try.func99 (by kernel_rfl) rfl)
    (numbers_stops _ (by omega) (q + 1 + 1) q wL bX) KpN.trans (fun W l o o' _ h hc _ => kpn_b W l o o' h hc) (Below.refl _ _) (fun _ => rfl)
    (fun pre W => AllOk a1 a2 a3 a4 a5 pre ∧ W.heap[q]? = some (Obj.cells #[.int .u32 a0, .int .i64 a1, .int .i64 a2, .int .i64 a3, .int .i64 a4, .int .i64 a5, .slice A ls.length c] 25 (0, 0)) ∧ W.heap[q + 1]? = some (Obj.cells #[.bool false] 4 (0, 0)) ∧ Below q w W)
    (fun c' pre W => c' = .ret ∧ numsOk a1 a2 a3 a4 a5 = false ∧ W.heap[q + 1]? = some (Obj.cells #[.bool false] 4 (0, 0)) ∧ Below q w W)
    (fun pre W W' row ⟨h1, h2, h3, h4⟩ hg hr => ⟨h1, blk_own h2 rfl hg hr, blk_own h3 rfl hg hr, h4.grown hg (by have := h4.size; omega) (fun k e => by have := (hr k e).1; omega)⟩)
    (fun c' pre W W' row ⟨h1, h2, h3, h4⟩ hg hr => ⟨h1, h2, blk_own h3 rfl hg hr, h4.grown hg (by have := h4.size; omega) (fun k e => by have := (hr k e).1; omega)⟩)
    ⟨fun i hi => (by cases hi), bP, bR, hB1⟩
    (fun x => { tmps := #[.agg #[.int .u32 a0, .int .i64 a1, .int .i64 a2, .int .i64 a3, .int .i64 a4, .int .i64 a5, .slice A ls.length c], .pointer (some ⟨q, 0, none⟩), .pointer (some ⟨q + 1, 0, none⟩), .pointer (some ⟨q, x.1 + 1, none⟩), .int .i64 (mostOf x.1), .func (.func 99) #[] #[.pointer (some ⟨q + 1 + 1, 0, none⟩)], .pointer (some ⟨q, x.1 + 1, none⟩), .int .i64 (mostOf x.1), undef, undef, undef, undef, undef, undef, undef, undef, undef, undef, undef, undef, undef, undef, undef, undef, undef, undef, undef], defers := [] }) ?assign ?body ?done ?stop
  case assign =>
    intro l x W K hK
    gi_wp2
    exact hK
  case body =>
    rintro l pre ⟨i, hi5⟩ W ⟨h1, h2, h3, h4⟩ hlt
    have hx := plan_num h2 i hi5
    have c3 := (cell_of_row W (q + 1) 0 _ _ _ h3).trans (rfl : _ = some (Value.bool false))
    have g3 : W.frozen? ⟨q + 1, 0, none⟩ = false := blk_frozen h3 0
    have H1 := Aside0.mk h1
    have H2 := Aside0.mk h2
    have H3 := Aside0.mk h3
    have H4 := Aside0.mk h4
    clear h1 h2 h3 h4
    obtain ⟨v, hv⟩ : ∃ v, numOf a1 a2 a3 a4 a5 i = v := ⟨_, rfl⟩
    obtain ⟨M, hM⟩ : ∃ M, mostOf i = M := ⟨_, rfl⟩
    rw [hv] at hx
    dsimp only
    rw [hM]
    have hbad : okNum v i = false → numsOk a1 a2 a3 a4 a5 = false := fun hb => by
      unfold numsOk
      rw [List.all_eq_false]
      exact ⟨i, List.mem_range.2 hi5, by rw [hv, hb]; decide⟩
    have HV := Aside0.mk hv
    by_cases c1 : v < 0
    · have HN := Aside0.mk (hbad (by unfold okNum; rw [decide_eq_false (by omega)]; rfl))
      clear hbad hv hM
      gi_wp2
      exact ⟨(KeepsOthers.setCell _ _ _), rfl, HN.out, blk_put H3.out 0 _ rfl, H4.out.setCell (by show q ≤ q + 1; omega) _⟩
    · by_cases c2 : M < v
      · have HN := Aside0.mk (hbad (by unfold okNum; rw [hM, decide_eq_false (show ¬ v ≤ M by omega), Bool.and_false]))
        clear hbad hv hM
        gi_wp2
        exact ⟨(KeepsOthers.setCell _ _ _), rfl, HN.out, blk_put H3.out 0 _ rfl, H4.out.setCell (by show q ≤ q + 1; omega) _⟩
      · have HN : Aside0 (okNum v i = true) := ⟨by unfold okNum; rw [hM, decide_eq_true (show 0 ≤ v by omega), decide_eq_true (show v ≤ M by omega)]; rfl⟩
        clear hbad hv hM
        gi_wp2
        exact ⟨KeepsOthers.refl _, KpN.refl _, H1.out.snoc (by rw [HV.out]; exact HN.out), H2.out, H3.out, H4.out⟩
  case done =>
    rintro D ys W hD hys ⟨h1, h2, h3, h4⟩ hK
    have HN := Aside0.mk (h1.all hys)
    have cI := (cell_of_row W q 0 _ _ _ h2).trans (rfl : _ = some (Value.int .u32 a0))
    have cT := (cell_of_row W q 6 _ _ _ h2).trans (rfl : _ = some (Value.slice A ls.length c))
    have c3 := (cell_of_row W (q + 1) 0 _ _ _ h3).trans (rfl : _ = some (Value.bool false))
    have g3 : W.frozen? ⟨q + 1, 0, none⟩ = false := blk_frozen h3 0
    have H3 := Aside0.mk h3
    have H4 := Aside0.mk h4
    have HK := Aside0.mk hK
    have hDL : L0 ≤ D := by omega
    have hWD : D < W.heap.size := (Array.getElem?_eq_some_iff.1 hK).1
    clear h1 h2 h3 h4 hys hK
    by_cases hI : 0 < a0
    · have HP : Aside0 (pchk a0 a1 a2 a3 a4 a5 ls = chk ls) := ⟨by unfold pchk; rw [HN.out, decide_eq_true hI]; rfl⟩
      gi_wp2_with fail
      refine ⟨trivial, callsIn_wide.2 ?_⟩
      refine (kc.out _ (Kd.C_below HC.out (hq ▸ H4.out))).mono ?_
      rintro e w3 ⟨rfl, hb⟩
      have h3 := (hb.block (q + 1) (Array.getElem?_eq_some_iff.1 H3.out).1).trans H3.out
      have c3' := (cell_of_row w3 (q + 1) 0 _ _ _ h3).trans (rfl : _ = some (Value.bool false))
      have g3' : w3.frozen? ⟨q + 1, 0, none⟩ = false := blk_frozen h3 0
      have h5 := (hb.block D hWD).trans HK.out
      have H5 := Aside0.mk h5
      have H3b := Aside0.mk h3
      have HB := Aside0.mk (H4.out.trans (below_weak_ hb (by have := H4.out.size; omega)))
      clear hb h3 h5
      gi_wp2_with fail
      have hK' := (KeepsOthers.setCell w3 ⟨q + 1, 0, none⟩ (.bool (chk ls))).same D _ H5.out rfl
      have e3 : (w3.setCell ⟨q + 1, 0, none⟩ (.bool (chk ls))).heap[q + 1]? = some (Obj.cells #[.bool (chk ls)] 4 (0, 0)) := blk_put H3b.out 0 (.bool (chk ls)) rfl
      have hb : Below q w (w3.setCell ⟨q + 1, 0, none⟩ (.bool (chk ls))) := HB.out.setCell (by show q ≤ q + 1; omega) _
      generalize (w3.setCell ⟨q + 1, 0, none⟩ (.bool (chk ls))) = Wd at e3 hK' hb ⊢
      refine ⟨by simp, .inl ⟨_, _, rfl, run_takeDeferred hK', ?_⟩⟩
      have f4 := cell_kept ((cell_of_row Wd (q + 1) 0 _ _ _ e3).trans (rfl : _ = some (Value.bool (chk ls)))) (grownBy_putObj' _ D (.deferred none)) (fun r e => by cases e; exact ⟨_, hK', rfl⟩)
      refine ⟨.bool (chk ls), ?_, by rw [HP.out], ?_⟩
      · simp [results, Try.results79, go_sem, f4]
      · rw [hq]
        exact hb.trans (belowK_b (n₀ := q) (w := wL) (by omega) Wd D _ (.deferred none) (by omega) hK' rfl rfl)
    · have HP : Aside0 (pchk a0 a1 a2 a3 a4 a5 ls = false) := ⟨by unfold pchk; rw [HN.out, decide_eq_false hI]; rfl⟩
      gi_wp2_with fail
      refine ⟨trivial, ?_⟩
      gi_wp2_with fail
      have hK' := (KeepsOthers.setCell W ⟨q + 1, 0, none⟩ (.bool (false))).same D _ HK.out rfl
      have e3 : (W.setCell ⟨q + 1, 0, none⟩ (.bool (false))).heap[q + 1]? = some (Obj.cells #[.bool (false)] 4 (0, 0)) := blk_put H3.out 0 (.bool (false)) rfl
      have hb : Below q w (W.setCell ⟨q + 1, 0, none⟩ (.bool (false))) := H4.out.setCell (by show q ≤ q + 1; omega) _
      generalize (W.setCell ⟨q + 1, 0, none⟩ (.bool (false))) = Wd at e3 hK' hb ⊢
      refine ⟨by simp, .inl ⟨_, _, rfl, run_takeDeferred hK', ?_⟩⟩
      have f4 := cell_kept ((cell_of_row Wd (q + 1) 0 _ _ _ e3).trans (rfl : _ = some (Value.bool (false)))) (grownBy_putObj' _ D (.deferred none)) (fun r e => by cases e; exact ⟨_, hK', rfl⟩)
      refine ⟨.bool (false), ?_, by rw [HP.out], ?_⟩
      · simp [results, Try.results79, go_sem, f4]
      · rw [hq]
        exact hb.trans (belowK_b (n₀ := q) (w := wL) (by omega) Wd D _ (.deferred none) (by omega) hK' rfl rfl)
  case stop =>
    rintro D c' pre W hD hpre ⟨rfl, h2, h3, h4⟩ hK
    have HN := Aside0.mk h2
    have H3 := Aside0.mk h3
    have H4 := Aside0.mk h4
    have HK := Aside0.mk hK
    clear h2 h3 h4 hpre hK
    gi_wp2
    refine ⟨by simp, .inl ⟨_, _, rfl, run_takeDeferred HK.out, ?_⟩⟩
    have f4 := cell_kept ((cell_of_row W (q + 1) 0 _ _ _ H3.out).trans (rfl : _ = some (Value.bool false))) (grownBy_putObj' _ D (.deferred none)) (fun r e => by cases e; exact ⟨_, HK.out, rfl⟩)
    refine ⟨.bool false, ?_, by unfold pchk; rw [HN.out]; rfl, ?_⟩
    · simp [results, Try.results79, go_sem, f4]
    · rw [hq]
      exact H4.out.trans (belowK_b (n₀ := q) (w := wL) (by omega) W D _ (.deferred none) (by omega) HK.out rfl rfl)
end Go.Proofs.Ytanjkhdagegapaa.Ext
end

section
/- plan.Put, proved by walking its code. -/
namespace Go.Proofs.Ytanjkhdagegapaa.Ext
open Go.RowKit Go.Shelf Go.Proofs.YtanjkhdagegapaaW.PrintWords Go.Proofs.YtanjkhdagegapaaW.PrintLast Go.Proofs.YtanjkhdagegapaaW.PrintMore Go.Proofs.YtanjkhdagegapaaW.Hand Go.Proofs.Ytanjkhdagegapaa.PZ
attribute [local go_sem] Oper.semAt_some
set_option linter.unusedVariables false
/-- Bytes of a list of numbers. -/
def bytes8 (l : List Int) : List Int := (l.map fun v => beN 8 (v % top64)).flatten
theorem bytes8_snoc (l : List Int) (v : Int) : bytes8 (l ++ [v]) = bytes8 l ++ beN 8 (v % top64) := by simp [bytes8]
theorem bytes8_length (l : List Int) : (bytes8 l).length = 8 * l.length := by
  induction l with
  | nil => rfl
  | cons v l ih => simp [bytes8, beN_length] at ih ⊢; omega
def tierNums (ls : List S39) : List Int := (ls.map fun t => [t.f0, t.f1]).flatten
theorem tierNums_snoc (l : List S39) (t : S39) : tierNums (l ++ [t]) = tierNums l ++ [t.f0] ++ [t.f1] := by simp [tierNums]
/-- A plan's numbers, in the order of its bytes. -/
def planNums (a0 a1 a2 a3 a4 a5 : Int) (ls : List S39) : List Int := [a0, a1, a2, a3, a4, a5, (ls.length : Int)] ++ tierNums ls
def pput (a0 a1 a2 a3 a4 a5 : Int) (ls : List S39) : List Int × Int := if pchk a0 a1 a2 a3 a4 a5 ls = true then (bytes8 (planNums a0 a1 a2 a3 a4 a5 ls), 0) else ([], 1)
theorem R_grown {W W' : World} {row : Option Nat} {base : Nat} {ok : Nat → Prop} {v : Value} {xs : List Int} {L : Nat} (hr : Kd.R (Kd.int .u8) 5 W base ok v xs) (hg : W.grownBy W' row) (hrow : ∀ r, row = some r → L ≤ r ∧ ∃ o : Obj, W.heap[r]? = some o ∧ o.isCells = false) : Kd.R (Kd.int .u8) 5 W' base ok v xs := by
  refine Kd.R_mono (Kd.R_step (Kd.R_bound hr) (fun k hk hlt => ?_)) (fun k hk => hk.1)
  obtain ⟨h0, hb, _, q, hq, cells, hc⟩ := hk
  exact hg.block k hlt (fun e => by
    obtain ⟨_, o2, h2, h3⟩ := hrow k e.symm
    rw [hc] at h2
    injection h2 with h2
    subst h2
    cases h3)
theorem R_ne {w : World} {e base b : Nat} {v : Value} {xs : List Int} (h : Kd.R (Kd.int .u8) e w base (fun _ => True) v xs) (hb : b < base) : Kd.R (Kd.int .u8) e w base (fun k => k ≠ b) v xs :=
  Kd.R_mono (Kd.R_bound h) (fun k hk => by have := hk.2.1; omega)
theorem take_oneT (ls : List S39) (k : Nat) (h : k < ls.length) : ls.take (k + 1) = ls.take k ++ [rd_T39 ls k] := by
  rw [List.take_succ_eq_append_getElem h]
  simp [rd_T39, List.getD_eq_getElem?_getD, List.getElem?_eq_getElem h]
theorem boxed_below {W W' : World} {B t : Nat} {v : Value} (h : Boxed W B t v) (hb : Below W.heap.size W W') : Boxed W' B t v := (hb.block B h.lt).trans h
theorem ko_below {W W' : World} (h : Below W.heap.size W W') : KeepsOthers W W' := ⟨h.size, fun k o hk _ => (h.block k (Array.getElem?_eq_some_iff.1 hk).1).trans hk⟩
theorem kpn_set {W : World} {B t : Nat} {cs : Array Value} {fr : Nat × Nat} {j : Nat} (v' : Value) (h : W.heap[B]? = some (Obj.cells cs t fr)) (h1 : t ≠ 120) (h2 : t ≠ 113) : KpN W (W.setCell ⟨B, j, none⟩ v') :=
  ⟨by simp, fun k t2 c fr2 ht hk => (Below.heap_setCell W ⟨B, j, none⟩ v' k (fun e => by
    have e : k = B := e
    subst e
    rw [hk] at h
    injection h with h
    injection h with _ h3 _
    rcases ht with ht | ht
    · exact h1 (h3 ▸ ht)
    · exact h2 (h3 ▸ ht))).trans hk⟩
set_option maxRecDepth 100000 in
set_option maxHeartbeats 3200000 in
theorem plan_Put_yes (a0 a1 a2 a3 a4 a5 : Int) (A : Option Addr) (c : Nat) (ls : List S39) (w : World) (hC : Kd.C k39 w A ls.length ls) (hcap : ls.length ≤ c) (hk : pchk a0 a1 a2 a3 a4 a5 ls = true) :
    Calls Try.prog 49 #[.agg #[.int .u32 a0, .int .i64 a1, .int .i64 a2, .int .i64 a3, .int .i64 a4, .int .i64 a5, .slice A ls.length c]] w fun e w' => ∃ v : Value, e = .returned (.tuple #[v, .int .i64 0]) ∧ Kd.R (Kd.int .u8) 5 w' w.heap.size (fun _ => True) v (bytes8 (planNums a0 a1 a2 a3 a4 a5 ls)) ∧ Below w.heap.size w w' := by
  have kc := Aside0.mk (fun (w : World) (hC : Kd.C k39 w A ls.length ls) => hk ▸ plan_Check_go a0 a1 a2 a3 a4 a5 A c ls w hC hcap)
  have HC := Aside0.mk hC
  clear hC hcap
  refine (callsIn_wide (n := 5)).1 ?_
  refine callsIn_of_wp_marks Try.func49 rfl trivial ?_ rfl
  simp only [Try.ntmps49, List.size_toArray, List.length_cons, List.length_nil, Nat.reduceAdd, Nat.reduceSub, Array.replicate_succ, Array.replicate_zero, List.push_toArray, List.append_toArray, List.nil_append, List.cons_append]
  gi_wp2_with fail
  refine ⟨trivial, callsIn_wide.2 ?_⟩
  refine (kc.out _ (Kd.C_below HC.out (below_alloc (Below.refl _ _) _))).mono ?_
  rintro e w1 ⟨rfl, hb⟩
  have bP := ((Blk.new_ (W := w) (o := .cells #[.int .u32 a0, .int .i64 a1, .int .i64 a2, .int .i64 a3, .int .i64 a4, .int .i64 a5, .slice A ls.length c] 25)).below hb).out
  have HB := Aside0.mk (below_step (below_alloc (Below.refl _ w) (.cells #[.int .u32 a0, .int .i64 a1, .int .i64 a2, .int .i64 a3, .int .i64 a4, .int .i64 a5, .slice A ls.length c] 25)) hb)
  have cI := (cell_of_row w1 w.heap.size 0 _ _ _ bP).trans (rfl : _ = some (Value.int .u32 a0))
  have BP := Aside0.mk bP
  clear hb kc bP
  gi_wp2_with fail
  refine ⟨trivial, callsIn_wide.2 ?_⟩
  rw [u64_conv]
  refine (Uint_any none 0 [] (a0 % top64) _ (Kd.C_nil _ _) (by decide) (top_pos a0).1 (top_pos a0).2).mono ?_
  rintro e w2 ⟨v1, rfl, hV, hb⟩
  obtain ⟨A1, c1, ev⟩ := Kd.R_slice hV
  subst ev
  have hl0 : ([] ++ beN 8 (a0 % top64)) = bytes8 [a0] := by simp [bytes8]
  rw [hl0] at hV ⊢
  have HV0 := Aside0.mk hV
  have HB2 := Aside0.mk (below_step HB.out hb)
  have BP2 := Aside0.mk ((hb.block _ (Array.getElem?_eq_some_iff.1 BP.out).1).trans BP.out)
  have HS1 := Aside0.mk hb.size
  have HS0 := Aside0.mk (Array.getElem?_eq_some_iff.1 BP.out).1
  clear hV hb hl0 HB BP cI
  gi_wp2_with fail
  refine ⟨trivial, ?_⟩
  refine (numbers_in _ _ _).mono ?_
  rintro e w3 ⟨rfl, rfl⟩
  gi_wp2_with fail
  obtain ⟨q, hq⟩ : ∃ q, w.heap.size = q := ⟨_, rfl⟩
  obtain ⟨b, hb⟩ : ∃ b, w2.heap.size = b := ⟨_, rfl⟩
  have hqb : q < b := by have := HS0.out; have := HS1.out; omega
  have bP := heap_alloc_lt _ (.cells #[.pointer (some ⟨w.heap.size, 0, none⟩)] 120) (by have := (Array.getElem?_eq_some_iff.1 BP2.out).1; simp; omega) (heap_alloc_lt w2 (.cells #[.slice A1 (bytes8 [a0]).length c1] 29) (Array.getElem?_eq_some_iff.1 BP2.out).1 BP2.out)
  have bB := (Boxed.new w2 29 (.slice A1 (bytes8 [a0]).length c1)).alloc (.cells #[.pointer (some ⟨w.heap.size, 0, none⟩)] 120)
  have bX := Boxed.new (w2.alloc (.cells #[.slice A1 (bytes8 [a0]).length c1] 29)) 120 (.pointer (some ⟨w.heap.size, 0, none⟩))
  have hR : Kd.R (Kd.int .u8) 5 ((w2.alloc (.cells #[.slice A1 (bytes8 [a0]).length c1] 29)).alloc (.cells #[.pointer (some ⟨w.heap.size, 0, none⟩)] 120)) q (fun k => k ≠ b) (.slice A1 (bytes8 [a0]).length c1) (bytes8 [a0]) :=
    Kd.R_lower (Kd.R_below (Kd.R_mono (Kd.R_bound HV0.out) (fun k hk => by have := hk.2.2.1; omega)) (below_alloc (below_alloc (Below.refl _ _) _) _)) (by have := HS0.out; omega)
  have hB1 : Below w.heap.size w ((w2.alloc (.cells #[.slice A1 (bytes8 [a0]).length c1] 29)).alloc (.cells #[.pointer (some ⟨w.heap.size, 0, none⟩)] 120)) := below_alloc (below_alloc HB2.out _) _
  have hsz : ((w2.alloc (.cells #[.slice A1 (bytes8 [a0]).length c1] 29)).alloc (.cells #[.pointer (some ⟨w.heap.size, 0, none⟩)] 120)).heap.size = w2.heap.size + 2 := by simp
  rw [World.size_alloc] at bX
  obtain ⟨wL, hwL⟩ : ∃ W, ((w2.alloc (.cells #[.slice A1 (bytes8 [a0]).length c1] 29)).alloc (.cells #[.pointer (some ⟨w.heap.size, 0, none⟩)] 120)) = W := ⟨_, rfl⟩
  rw [hwL] at bP bB bX hB1 hsz hR ⊢
  clear hwL HV0 HB2 BP2 HS1 HS0
  rw [hb] at bB bX hsz ⊢
  rw [hq] at bP bX hB1 ⊢
  rw [bytes8_length] at bB hR ⊢
  obtain ⟨L0, hL0⟩ : ∃ L, wL.heap.size = L := ⟨_, rfl⟩
  refine wpIn_rangeFunc_ownF rfl (by omega) (gf := 99) (lb := #[.pointer (some ⟨b + 1, 0, none⟩)]) rfl trivial (enters_of Try.func99 (by kernel_rfl) rfl)
    (numbers_stops _ (by omega) (b + 1) q wL bX) KpN.trans (fun W l o o' _ h hc _ => kpn_b W l o o' h hc) (Below.refl _ _) (fun _ => rfl)
    (fun pre W => (∃ A' c', Boxed W b 29 (.slice A' (8 * (pre.length + 1)) c') ∧ Kd.R (Kd.int .u8) 5 W q (fun k => k ≠ b) (.slice A' (8 * (pre.length + 1)) c') (bytes8 (a0 :: pre.map fun i => numOf a1 a2 a3 a4 a5 i.1))) ∧ W.heap[q]? = some (Obj.cells #[.int .u32 a0, .int .i64 a1, .int .i64 a2, .int .i64 a3, .int .i64 a4, .int .i64 a5, .slice A ls.length c] 25 (0, 0)) ∧ Below q w W ∧ b < W.heap.size)
    (fun _ _ _ => False)
    (fun pre W W' row ⟨⟨A', c', h1, h2⟩, h3, h4, h5⟩ hg hr => ⟨⟨A', c', blk_own h1 rfl hg hr, R_grown h2 hg hr⟩, blk_own h3 rfl hg hr, h4.grown hg (by have := h4.size; omega) (fun k e => by have := (hr k e).1; omega), Nat.lt_of_lt_of_le h5 hg.size⟩)
    (fun _ _ _ _ _ hs _ _ => hs)
    ⟨⟨A1, c1, bB, hR⟩, bP, hB1, by omega⟩
    (fun x => { tmps := #[.agg #[.int .u32 a0, .int .i64 a1, .int .i64 a2, .int .i64 a3, .int .i64 a4, .int .i64 a5, .slice A ls.length c], .pointer (some ⟨q, 0, none⟩), .slice none 0 0, .int .i64 0, .pointer (some ⟨b, 0, none⟩), .pointer (some ⟨q, x.1 + 1, none⟩), undef, undef, .agg #[.int .u32 a0, .int .i64 a1, .int .i64 a2, .int .i64 a3, .int .i64 a4, .int .i64 a5, .slice A ls.length c], .bool true, .bool false, .pointer (some ⟨q, 0, none⟩), .int .u32 a0, .int .u64 (a0 % top64), .slice A1 8 c1, .func (.func 99) #[] #[.pointer (some ⟨b + 1, 0, none⟩)], .pointer (some ⟨q, x.1 + 1, none⟩), .int .i64 (mostOf x.1), undef, undef, undef, undef, undef, undef, undef, undef, undef, undef, undef, undef, undef, undef, undef, undef, undef, undef, undef, undef, undef, undef, undef, undef, undef, undef], defers := [] }) ?assign ?body ?done ?stop
  case assign =>
    intro l x W K hK
    gi_wp2
    exact hK
  case body =>
    rintro l pre ⟨i, hi5⟩ W ⟨⟨A', c', h1, h2⟩, h3, h4, h5⟩ hlt
    have hx := plan_num h3 i hi5
    have c1 := h1.cell
    have g1 := h1.frozen
    have hln : (bytes8 (a0 :: pre.map fun i => numOf a1 a2 a3 a4 a5 i.1)).length = 8 * (pre.length + 1) := by rw [bytes8_length]; simp
    have ki := Aside0.mk (Int_any A' c' (bytes8 (a0 :: pre.map fun i => numOf a1 a2 a3 a4 a5 i.1)) (numOf a1 a2 a3 a4 a5 i) W.drew (hln ▸ (Kd.R_reads' (Kd.R_below h2 (below_drew (Below.refl _ _)))).2.2) (by rw [hln]; omega))
    rw [hln] at ki
    have hsn : bytes8 (a0 :: pre.map fun i => numOf a1 a2 a3 a4 a5 i.1) ++ beN 8 (numOf a1 a2 a3 a4 a5 i % top64) = bytes8 (a0 :: (pre ++ [(⟨i, hi5⟩ : N5)]).map fun i : N5 => numOf a1 a2 a3 a4 a5 i.1) := by
      rw [← bytes8_snoc]; simp
    rw [hsn] at ki
    have H1 := Aside0.mk h1
    have H3 := Aside0.mk h3
    have H4 := Aside0.mk h4
    have H5 := Aside0.mk h5
    have HLN : Aside0 ((bytes8 (a0 :: (pre ++ [(⟨i, hi5⟩ : N5)]).map fun i : N5 => numOf a1 a2 a3 a4 a5 i.1)).length = 8 * ((pre ++ [(⟨i, hi5⟩ : N5)]).length + 1)) := ⟨by rw [bytes8_length]; simp⟩
    clear h1 h2 h3 h4 h5 hsn
    obtain ⟨v, hv⟩ : ∃ v, numOf a1 a2 a3 a4 a5 i = v := ⟨_, rfl⟩
    rw [hv] at hx ki
    clear hv
    dsimp only
    gi_wp2_with fail
    gi_region_with (refine ⟨trivial, ?_⟩; gi_at_call 44; refine (CallsIn.inRound l (callsIn_wide.2 ki.out)).mono ?_; rintro e w3 ⟨v3, rfl, hV, hbl⟩; obtain ⟨A3, c3, ev⟩ := Kd.R_slice hV; subst ev; rw [HLN.out] at hV ⊢; have HV := Aside0.mk hV; have HBL := Aside0.mk hbl; have H1b := Aside0.mk (boxed_below (show Boxed W.drew b 29 _ from H1.out) hbl); have g1' := H1b.out.frozen; have c1' := H1b.out.cell; clear hV hbl ki)
    all_goals
      gi_wp2
      have HBL2 : Below W.heap.size W w3 := Below.trans (below_drew (Below.refl _ W)) HBL.out
      have H1c : w3.heap[b]? = some (Obj.cells #[.slice A' (8 * (pre.length + 1)) c'] 29 (0, 0)) := H1b.out
      refine ⟨(ko_below HBL2).trans (KeepsOthers.setCell _ _ _), (kpn_below HBL2).trans (kpn_set _ H1c (by decide) (by decide)), ⟨A3, c3, ?_, ?_⟩, ?_, ?_, ?_⟩
      · have := H1b.out.set (.slice A3 (8 * ((pre ++ [(⟨i, hi5⟩ : N5)]).length + 1)) c3)
        simpa using this
      · have := Kd.R_far (Kd.R_lower (base' := q) (R_ne (b := b) HV.out H5.out) (by have := H4.out.size; have := H5.out; show q ≤ W.heap.size; omega)) (p := ⟨b, 0, none⟩) (fun k hk => hk) (.slice A3 (8 * ((pre ++ [(⟨i, hi5⟩ : N5)]).length + 1)) c3)
        simpa using this
      · exact (Below.heap_setCell w3 ⟨b, 0, none⟩ _ q (by show q ≠ b; omega)).trans ((HBL2.block q (Array.getElem?_eq_some_iff.1 H3.out).1).trans H3.out)
      · exact (H4.out.trans (below_weak_ HBL2 (by have := H5.out; omega))).setCell (by show q ≤ b; omega) _
      · have h6 := H5.out
        have h7 := HBL2.size
        rw [World.size_setCell]
        omega
  case done =>
    rintro D ys W hD hys ⟨⟨A', c', h1, h2⟩, h3, h4, h5⟩ hK
    have hyl : ys.length = 5 := by have := congrArg List.length hys; simpa using this
    rw [hyl] at h1 h2
    have hyb : bytes8 (a0 :: ys.map fun i => numOf a1 a2 a3 a4 a5 i.1) = bytes8 [a0, a1, a2, a3, a4, a5] := by
      have e : (ys.map fun i => numOf a1 a2 a3 a4 a5 i.1) = (ys.map Subtype.val).map (numOf a1 a2 a3 a4 a5) := by rw [List.map_map]; rfl
      rw [e, hys]; rfl
    rw [hyb] at h2
    have c1 := h1.cell
    have g1 := h1.frozen
    have cT := (cell_of_row W q 6 _ _ _ h3).trans (rfl : _ = some (Value.slice A ls.length c))
    have ki := Aside0.mk (Int_any A' c' (bytes8 [a0, a1, a2, a3, a4, a5]) ls.length W (by have := (Kd.R_reads' h2).2.2; rwa [bytes8_length]) (by rw [bytes8_length]; simp))
    rw [bytes8_length, ← bytes8_snoc] at ki
    have H1 := Aside0.mk h1
    have H3 := Aside0.mk h3
    have H4 := Aside0.mk h4
    have H5 := Aside0.mk h5
    have HK := Aside0.mk hK
    have hDL : L0 ≤ D := by omega
    have hWD : D < W.heap.size := (Array.getElem?_eq_some_iff.1 hK).1
    clear h1 h2 h3 h4 h5 hys hK hyb
    gi_wp2_with fail
    refine ⟨trivial, callsIn_wide.2 ?_⟩
    refine ki.out.mono ?_
    rintro e w3 ⟨v3, rfl, hV, hbl⟩
    obtain ⟨A3, c3, ev⟩ := Kd.R_slice hV
    subst ev
    rw [bytes8_length] at hV ⊢
    have HV := Aside0.mk hV
    have HBL := Aside0.mk hbl
    have H1b := Aside0.mk (boxed_below H1.out hbl)
    have HP3 := Aside0.mk ((hbl.block q (Array.getElem?_eq_some_iff.1 H3.out).1).trans H3.out)
    have HK3 := Aside0.mk ((hbl.block D hWD).trans HK.out)
    have g1' := H1b.out.frozen
    have c1' := H1b.out.cell
    have cT' := (cell_of_row w3 q 6 _ _ _ HP3.out).trans (rfl : _ = some (Value.slice A ls.length c))
    clear hV hbl ki c1 g1 cT
    have hl4 : ls.length ≤ 4 := by
      unfold pchk chk at hk
      rw [Bool.and_eq_true, Bool.and_eq_true, Bool.and_eq_true, decide_eq_true_eq, decide_eq_true_eq] at hk
      exact hk.2.2.1.2
    have hqW : q ≤ W.heap.size := by have := H5.out; omega
    have hbW3 : b < w3.heap.size := H1b.out.lt
    have HB3 : Aside0 (Below q w (w3.setCell ⟨b, 0, none⟩ (.slice A3 56 c3))) := ⟨(H4.out.trans (below_weak_ HBL.out hqW)).setCell (by show q ≤ b; omega) _⟩
    have HBX3 : Aside0 (Boxed (w3.setCell ⟨b, 0, none⟩ (.slice A3 56 c3)) b 29 (.slice A3 56 c3)) := ⟨H1b.out.set _⟩
    have HR3 : Aside0 (Kd.R (Kd.int .u8) 5 (w3.setCell ⟨b, 0, none⟩ (.slice A3 56 c3)) q (fun k => k ≠ b) (.slice A3 56 c3) (bytes8 [a0, a1, a2, a3, a4, a5, (ls.length : Int)])) := ⟨Kd.R_far (Kd.R_lower (R_ne (b := b) HV.out H5.out) hqW) (p := ⟨b, 0, none⟩) (fun k hk => hk) _⟩
    have HD3 : Aside0 ((w3.setCell ⟨b, 0, none⟩ (.slice A3 56 c3)).heap[D]? = some (Obj.deferred (some []))) := ⟨(KeepsOthers.setCell _ _ _).same D _ HK3.out rfl⟩
    clear HV HBL H1b HP3 HK3 H1 H3 H4 H5 HK
    gi_wp2_with fail
    clear cT' c1' g1'
    gi_loopw [31] (fun i wr => ∃ k : Nat, k ≤ ls.length ∧ i = .int .i64 k ∧ Aside0 (Below q w wr) ∧ Aside0 (wr.heap[D]? = some (Obj.deferred (some []))) ∧ Aside0 (b < wr.heap.size) ∧ ∃ A' c', Aside0 (Boxed wr b 29 (.slice A' (56 + 16 * k) c')) ∧ Aside0 (Kd.R (Kd.int .u8) 5 wr q (fun k => k ≠ b) (.slice A' (56 + 16 * k) c') (bytes8 ([a0, a1, a2, a3, a4, a5, (ls.length : Int)] ++ tierNums (ls.take k)))))
      (fun i _ => ls.length - (intOf i).toNat)
    case atStart => exact ⟨0, Nat.zero_le _, rfl, HB3, HD3, ⟨by rw [World.size_setCell]; exact hbW3⟩, A3, c3, HBX3, HR3⟩
    case round =>
      obtain ⟨k, hk, rfl, HBk, HDk, HSk, Ak, ck, HXk, HRk⟩ := hrel
      by_cases hlt : k < ls.length
      · obtain ⟨ad, e1, hx0, hx1⟩ := at_T39 (Kd.C_below HC.out (hq ▸ HBk.out)) k (by omega) (by omega)
        cases e1
        simp only [Int.toNat_natCast] at hx0 hx1
        have hst := take_oneT ls k hlt
        obtain ⟨⟨f0, f1⟩, ht⟩ : ∃ t, rd_T39 ls k = t := ⟨_, rfl⟩
        rw [ht] at hx0 hx1 hst
        dsimp only at hx0 hx1
        have hbyt : bytes8 ([a0, a1, a2, a3, a4, a5, (ls.length : Int)] ++ tierNums (ls.take k)) ++ beN 8 (f0 % top64) ++ beN 8 (f1 % top64) = bytes8 ([a0, a1, a2, a3, a4, a5, (ls.length : Int)] ++ tierNums (ls.take (k + 1))) := by
          rw [hst, tierNums_snoc, ← bytes8_snoc, ← bytes8_snoc]
          simp
        have HBYT := Aside0.mk hbyt
        have hln : (bytes8 ([a0, a1, a2, a3, a4, a5, (ls.length : Int)] ++ tierNums (ls.take k))).length = 56 + 16 * k := by
          have := (Kd.R_reads' HRk.out).1
          omega
        have c1 := HXk.out.cell
        clear hst ht hbyt
        gi_wp2_with fail
        have hbx : (wr.alloc (Obj.cells #[.int .i64 f0, .int .i64 f1] 39)).heap[wr.heap.size]? = some (Obj.cells #[.int .i64 f0, .int .i64 f1] 39 (0, 0)) := heap_alloc_new wr _
        have hba : Below wr.heap.size wr (wr.alloc (Obj.cells #[.int .i64 f0, .int .i64 f1] 39)) := below_alloc (Below.refl _ _) _
        obtain ⟨t, ht⟩ : ∃ t, wr.heap.size = t := ⟨_, rfl⟩
        have hbt : b < t := by have := HSk.out; omega
        rw [ht] at hbx hba ⊢
        obtain ⟨wa, hwa⟩ : ∃ W, (wr.alloc (Obj.cells #[.int .i64 f0, .int .i64 f1] 39)) = W := ⟨_, rfl⟩
        rw [hwa] at hbx hba ⊢
        have c1a := ((show Boxed wa b 29 _ from (hba.block b hbt).trans HXk.out)).cell
        have g1a := ((show Boxed wa b 29 _ from (hba.block b hbt).trans HXk.out)).frozen
        have ct0 := (cell_of_row wa t 0 _ _ _ hbx).trans (rfl : _ = some (Value.int .i64 f0))
        have ct1 := (cell_of_row wa t 1 _ _ _ hbx).trans (rfl : _ = some (Value.int .i64 f1))
        have htw : t < wa.heap.size := (Array.getElem?_eq_some_iff.1 hbx).1
        have hbd : Below wr.heap.size wr wa.drew := by rw [ht]; exact Below.trans hba (below_drew (Below.refl t wa))
        have hC1 : Kd.C (Kd.int .u8) wa.drew Ak (bytes8 ([a0, a1, a2, a3, a4, a5, (ls.length : Int)] ++ tierNums (ls.take k))).length (bytes8 ([a0, a1, a2, a3, a4, a5, (ls.length : Int)] ++ tierNums (ls.take k))) := (Kd.R_reads' (Kd.R_below HRk.out hbd)).2.2
        have k1 := Aside0.mk (Int_any Ak ck _ f0 wa.drew hC1 (by rw [hln]; omega))
        clear hbd hC1
        rw [hln] at k1
        have hln1 : (bytes8 ([a0, a1, a2, a3, a4, a5, (ls.length : Int)] ++ tierNums (ls.take k)) ++ beN 8 (f0 % top64)).length = 56 + 16 * k + 8 := by rw [List.length_append, hln, beN_length]
        have hln2 : (bytes8 ([a0, a1, a2, a3, a4, a5, (ls.length : Int)] ++ tierNums (ls.take k)) ++ beN 8 (f0 % top64) ++ beN 8 (f1 % top64)).length = 56 + 16 * (k + 1) := by rw [List.length_append, hln1, beN_length]; omega
        have HBA := Aside0.mk hba
        have HLN1 := Aside0.mk hln1
        have HLN2 := Aside0.mk hln2
        have HBX := Aside0.mk hbx
        have H2 := Aside0.mk (⟨hbt, htw, ht⟩ : b < t ∧ t < wa.heap.size ∧ wr.heap.size = t)
        have FIN : Aside0 (∀ (w6 : World) (A6 : Option Addr) (c6 : Nat), Below wa.heap.size wa w6 → Boxed w6 b 29 (.slice Ak (56 + 16 * k) ck) → Kd.R (Kd.int .u8) 5 w6 t (fun _ => True) (.slice A6 (56 + 16 * (k + 1)) c6) (bytes8 ([a0, a1, a2, a3, a4, a5, (ls.length : Int)] ++ tierNums (ls.take k)) ++ beN 8 (f0 % top64) ++ beN 8 (f1 % top64)) →
            Aside0 (Below q w (w6.setCell ⟨b, 0, none⟩ (.slice A6 (56 + 16 * (k + 1)) c6))) ∧ Aside0 ((w6.setCell ⟨b, 0, none⟩ (.slice A6 (56 + 16 * (k + 1)) c6)).heap[D]? = some (Obj.deferred (some []))) ∧ Aside0 (b < (w6.setCell ⟨b, 0, none⟩ (.slice A6 (56 + 16 * (k + 1)) c6)).heap.size) ∧ ∃ A' c', Aside0 (Boxed (w6.setCell ⟨b, 0, none⟩ (.slice A6 (56 + 16 * (k + 1)) c6)) b 29 (.slice A' (56 + 16 * (k + 1)) c')) ∧ Aside0 (Kd.R (Kd.int .u8) 5 (w6.setCell ⟨b, 0, none⟩ (.slice A6 (56 + 16 * (k + 1)) c6)) q (fun k => k ≠ b) (.slice A' (56 + 16 * (k + 1)) c') (bytes8 ([a0, a1, a2, a3, a4, a5, (ls.length : Int)] ++ tierNums (ls.take (k + 1)))))) := ⟨fun w6 A6 c6 h1 h2 h3 => by
          have hdw : D < t := by rw [← ht]; exact (Array.getElem?_eq_some_iff.1 HDk.out).1
          refine ⟨⟨((HBk.out.trans (below_weak_ hba (by omega))).trans (below_weak_ h1 (by omega))).setCell (by show q ≤ b; omega) _⟩, ⟨(KeepsOthers.setCell _ _ _).same D _ ((h1.block D (by omega)).trans ((hba.block D hdw).trans HDk.out)) rfl⟩, ⟨?_⟩, A6, c6, ⟨h2.set _⟩, ⟨?_⟩⟩
          · rw [World.size_setCell]
            have := h1.size
            omega
          · rw [HBYT.out] at h3
            exact Kd.R_far (Kd.R_lower (R_ne (b := b) h3 hbt) (by omega)) (p := ⟨b, 0, none⟩) (fun k hk => hk) _⟩
        clear hba hln hln1 hln2 hwa c1 hx0 hx1 hbx hbt htw ht
        refine wpIn_wide.2 ?_
        refine wp_region_noPanic ?_
        go_region_with (first
          | (go_at_call 44; refine k1.out.mono ?_; rintro e w5 ⟨v5, rfl, hV5, hbl5⟩; obtain ⟨A5, c5, ev⟩ := Kd.R_slice hV5; subst ev; have hC2 := (Kd.R_reads' hV5).2.2; rw [HLN1.out] at hV5 ⊢; have HB5 := Aside0.mk (show Below wa.heap.size wa w5 from Below.trans (below_drew (Below.refl wa.heap.size wa)) hbl5); have k2 := Aside0.mk (Int_any A5 c5 _ f1 w5 hC2 (by rw [HLN1.out]; omega)); rw [HLN1.out] at k2; have ct1' := (cell_of_row w5 t 1 _ _ _ ((HB5.out.block t H2.out.2.1).trans HBX.out)).trans (rfl : _ = some (Value.int .i64 f1)); clear hV5 hbl5 k1 hC2)
          | (go_at_call 44; refine k2.out.mono ?_; rintro e w6 ⟨v6, rfl, hV6, hbl6⟩; obtain ⟨A6, c6, ev⟩ := Kd.R_slice hV6; subst ev; rw [HLN2.out] at hV6 ⊢; have HB6 := Aside0.mk (show Below wa.heap.size wa w6 from Below.trans HB5.out (below_weak_ hbl6 HB5.out.size)); have HX6 := Aside0.mk (show Boxed w6 b 29 _ from (HB6.out.block b (by have := H2.out; omega)).trans ((HBA.out.block b H2.out.1).trans HXk.out)); have c6' := HX6.out.cell; have g6' := HX6.out.frozen; have HV6 := Aside0.mk (Kd.R_lower (base' := t) hV6 (by have := HB5.out.size; have := H2.out; omega)); clear hV6 hbl6 k2))
        all_goals
          refine NoPanic.normal ?_
          gi_wp2
          go_roundw
          case rel => exact ⟨k + 1, by omega, by go_num, FIN.out _ _ _ HB6.out HX6.out HV6.out⟩
          case measure => first | go_num | (simp [intOf]; omega) | (simp only [intOf]; omega)
      · obtain rfl : k = ls.length := by omega
        have c1 := HXk.out.cell
        gi_wp2_with fail
        refine ⟨by simp, .inl ⟨_, _, rfl, run_takeDeferred HDk.out, ?_⟩⟩
        refine ⟨.tuple #[.slice Ak (56 + 16 * ls.length) ck, .int .i64 0], ?_, ⟨_, rfl, ?_, ?_⟩⟩
        · simp [results, Try.results49, go_sem]
        · have h := R_grown (L := 0) HRk.out (grownBy_putObj' _ D (.deferred none)) (fun r e => by cases e; exact ⟨Nat.zero_le _, _, HDk.out, rfl⟩)
          rw [List.take_length] at h
          rw [hq]
          exact Kd.R_mono h (fun _ _ => trivial)
        · rw [hq]
          exact HBk.out.trans (belowK_b (n₀ := q) (w := wL) (by omega) wr D _ (.deferred none) (by omega) HDk.out rfl rfl)
  case stop =>
    rintro D c' pre W hD hpre hF hK
    exact hF.elim
end Go.Proofs.Ytanjkhdagegapaa.Ext
end

section
/- plan.Put, the contracts. -/
namespace Go.Proofs.Ytanjkhdagegapaa.Ext
open Go.RowKit Go.Shelf Go.Proofs.YtanjkhdagegapaaW.PrintWords Go.Proofs.YtanjkhdagegapaaW.PrintLast Go.Proofs.YtanjkhdagegapaaW.PrintMore Go.Proofs.YtanjkhdagegapaaW.Hand Go.Proofs.Ytanjkhdagegapaa.PZ
set_option linter.unusedVariables false
set_option maxRecDepth 100000 in
theorem plan_Put_no (a0 a1 a2 a3 a4 a5 : Int) (A : Option Addr) (c : Nat) (ls : List S39) (w : World) (hC : Kd.C k39 w A ls.length ls) (hcap : ls.length ≤ c) (hk : pchk a0 a1 a2 a3 a4 a5 ls = false) :
    Calls Try.prog 49 #[.agg #[.int .u32 a0, .int .i64 a1, .int .i64 a2, .int .i64 a3, .int .i64 a4, .int .i64 a5, .slice A ls.length c]] w fun e w' => ∃ v : Value, e = .returned (.tuple #[v, .int .i64 1]) ∧ Kd.R (Kd.int .u8) 5 w' w.heap.size (fun _ => True) v [] ∧ Below w.heap.size w w' := by
  have kc := Aside0.mk (fun (w : World) (hC : Kd.C k39 w A ls.length ls) => hk ▸ plan_Check_go a0 a1 a2 a3 a4 a5 A c ls w hC hcap)
  have HC := Aside0.mk hC
  clear hC hcap hk
  go_enter Try.func49, Try.ntmps49
  go_wp2_with fail
  refine (kc.out _ (Kd.C_below HC.out (below_alloc (Below.refl _ _) _))).mono ?_
  rintro e w1 ⟨rfl, hb⟩
  have HB := Aside0.mk (below_step (below_alloc (Below.refl _ w) (.cells #[.int .u32 a0, .int .i64 a1, .int .i64 a2, .int .i64 a3, .int .i64 a4, .int .i64 a5, .slice A ls.length c] 25)) hb)
  clear hb kc
  go_wp2_with fail
  exact bodyPost_ret (v := .tuple #[.slice none 0 0, .int .i64 1]) (by simp [results, Try.results49, go_sem]) rfl ⟨_, rfl, Kd.R_nil _ _ _ _ _, HB.out⟩
/-- What Put answers: bytes and an error. -/
theorem plan_Put_go (a0 a1 a2 a3 a4 a5 : Int) (A : Option Addr) (c : Nat) (ls : List S39) (w : World) (hC : Kd.C k39 w A ls.length ls) (hcap : ls.length ≤ c) :
    Calls Try.prog 49 #[.agg #[.int .u32 a0, .int .i64 a1, .int .i64 a2, .int .i64 a3, .int .i64 a4, .int .i64 a5, .slice A ls.length c]] w fun e w' => ∃ v : Value, e = .returned (.tuple #[v, .int .i64 (pput a0 a1 a2 a3 a4 a5 ls).2]) ∧ Kd.R (Kd.int .u8) 5 w' w.heap.size (fun _ => True) v (pput a0 a1 a2 a3 a4 a5 ls).1 ∧ Below w.heap.size w w' := by
  unfold pput
  cases hk : pchk a0 a1 a2 a3 a4 a5 ls with
  | true => rw [if_pos rfl]; exact plan_Put_yes a0 a1 a2 a3 a4 a5 A c ls w hC hcap hk
  | false => rw [if_neg (by simp)]; exact plan_Put_no a0 a1 a2 a3 a4 a5 A c ls w hC hcap hk
end Go.Proofs.Ytanjkhdagegapaa.Ext
end
