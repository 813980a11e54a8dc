/- The iterator of package tiers (spans), proved by walking its code. -/
import Derived.RangeFuncBox
import Derived.RangeFuncNested
import Derived.RangeFuncLeaves
import Derived.Shelf.Abstract
import Derived.WalkKit
import Derived.OwnWalkIn
import Derived.TacticsInMore
import Derived.LoopNIn
import Derived.LoopIn
import Derived.Test.YthgfdgkmmlbohaaPZx0
import Derived.Test.YthgfdgkmmlbohaaH
import Derived.Test.YthgfdgkmmlbohaaMath
namespace Go.Proofs.Ythgfdgkmmlbohaa.Ext
open Go.RowKit Go.Shelf Go.Proofs.YthgfdgkmmlbohaaW.PrintWords Go.Proofs.YthgfdgkmmlbohaaW.PrintLast Go.Proofs.YthgfdgkmmlbohaaW.PrintMore Go.Proofs.YthgfdgkmmlbohaaW.Hand Go.Proofs.Ythgfdgkmmlbohaa.PZ
attribute [local go_sem] Oper.semAt_some
attribute [local go_sem] max2_int min2_int max_two min_two
set_option linter.unusedVariables false
/-- The end of a tier among n units. -/
def endOf (n : Int) (t : S27) : Int := if 0 < t.f0 then (if t.f0 < n then t.f0 else n) else n
/-- How many of n units are a tier's. -/
def spanOf (n was : Int) (t : S27) : Int := if 0 < endOf n t - was then endOf n t - was else 0
def wasOf (was : Int) (t : S27) : Int := if was < t.f0 then t.f0 else was
def spansFrom (n : Int) : Int → List S27 → List (S27 × Int)
  | _, [] => []
  | was, t :: l => (t, spanOf n was t) :: spansFrom n (wasOf was t) l
def wasAt (was : Int) (l : List S27) : Int := l.foldl wasOf was
theorem spansFrom_append (n was : Int) (a b : List S27) : spansFrom n was (a ++ b) = spansFrom n was a ++ spansFrom n (wasAt was a) b := by
  induction a generalizing was with
  | nil => rfl
  | cons t a ih => simp [spansFrom, ih, wasAt]
theorem spansFrom_length (n was : Int) (l : List S27) : (spansFrom n was l).length = l.length := by
  induction l generalizing was with
  | nil => rfl
  | cons t l ih => simp [spansFrom, ih]
theorem wasAt_range (l : List S27) (h : ∀ t ∈ l, I64 t.f0) : ∀ was : Int, 0 ≤ was → was < 9223372036854775808 → 0 ≤ wasAt was l ∧ wasAt was l < 9223372036854775808 := by
  induction l with
  | nil => intro was h0 h1; exact ⟨h0, h1⟩
  | cons t l ih =>
    intro was h0 h1
    have ht := h t (by simp)
    unfold I64 at ht
    refine ih (fun x hx => h x (by simp [hx])) (wasOf was t) ?_ ?_ <;> (unfold wasOf; split <;> omega)
theorem take_one27 (l : List S27) (k : Nat) (h : k < l.length) : l.take (k + 1) = l.take k ++ [rd_T27 l k] := by
  rw [List.take_succ_eq_append_getElem h]; simp [rd_T27, List.getD_eq_getElem?_getD, List.getElem?_eq_getElem h]
theorem wasAt_snoc (was : Int) (l : List S27) (t : S27) : wasAt was (l ++ [t]) = wasOf (wasAt was l) t := by simp [wasAt]
/-- What a round keeps: what lay below, tiers in cells, and a box. -/
def KpT (n₀ Bn : Nat) (W W' : World) : Prop :=
  Below n₀ W W' ∧ (∀ (k : Nat) (c : Array Value) (fr : Nat × Nat), W.heap[k]? = some (Obj.cells c 27 fr) → W'.heap[k]? = some (Obj.cells c 27 fr)) ∧ (∀ o : Obj, W.heap[Bn]? = some o → W'.heap[Bn]? = some o)
theorem KpT.refl (n₀ Bn : Nat) (W : World) : KpT n₀ Bn W W := ⟨Below.refl _ _, fun _ _ _ h => h, fun _ h => h⟩
theorem KpT.trans {n₀ Bn : Nat} {A B C : World} (h : KpT n₀ Bn A B) (k : KpT n₀ Bn B C) : KpT n₀ Bn A C :=
  ⟨h.1.trans k.1, fun j c fr hj => k.2.1 j c fr (h.2.1 j c fr hj), fun o ho => k.2.2 o (h.2.2 o ho)⟩
theorem below_weak_ {A B : Nat} {w W : World} (h : Below A w W) (hle : B ≤ A) : Below B w W := ⟨h.os, h.tape, h.output, h.size, fun i hi => h.block i (Nat.lt_of_lt_of_le hi hle)⟩
abbrev encsT (x : S27 × Int) : Array Value := #[.agg #[.int .i64 x.1.f0, .int .i64 x.1.f1], .int .i64 x.2]
set_option maxRecDepth 100000 in
set_option maxHeartbeats 2000000 in
theorem spans1_in (F : Fence) (m : Nat) (hF : F.fn 27) (hro : F.round = none) (hn : 1 ≤ m) (l Bl Bn : Nat) (A : Option Addr) (c : Nat) (ls : List S27) (n : Int) (w0 : World)
    (hC : Kd.C k27 w0 A ls.length ls) (hls : ∀ t ∈ ls, I64 t.f0) (hn0 : 0 ≤ n) (hn1 : n < 9223372036854775808) (J Jx : List (S27 × Int) → World → Prop) (W : World) (hJ : AbidesFrom W.heap.size J)
    (hb0 : Below w0.heap.size w0 W) (hBl : W.cell? ⟨Bl, 0, none⟩ = some (.slice A ls.length c)) (hBn : W.heap[Bn]? = some (Obj.cells #[.int .i64 n] 2 (0, 0))) 
    (hY : ∀ pre x W, J pre W → pre.length < ls.length → x ∈ spansFrom n 0 ls → YieldAt F (m - 1) Try.prog l (encsT x) W fun e W' =>
      (e = .returned (.bool true) ∧ J (pre ++ [x]) W' ∧ KpT w0.heap.size Bn W W') ∨ (e = .returned (.bool false) ∧ Jx (pre ++ [x]) W'))
    (h0 : J [] W) :
    CallsIn F m Try.prog 27 #[.func (.yield l) #[] #[], .pointer (some ⟨Bl, 0, none⟩), .pointer (some ⟨Bn, 0, none⟩)] W fun e W' => (∃ v, e = .returned v) ∧
      ((∃ ys, ys = spansFrom n 0 ls ∧ J ys W') ∨ (∃ pre, pre <+: spansFrom n 0 ls ∧ Jx pre W')) := by
  have hu27 := Try.underlying27
  have hlen : ls.length ≤ 9223372036854775807 := hC.2.1
  have HC := Aside0.mk hC
  have HLS := Aside0.mk hls
  have HJ := Aside0.mk hJ
  have HB := Aside0.mk hb0
  have HBN := Aside0.mk hBn
  clear hC hls hJ hb0 hBn
  refine callsIn_of_wp Try.func27 rfl hF ?_ hro
  simp only [Try.ntmps27, List.size_toArray, List.length_cons, List.length_nil, Nat.reduceAdd, Nat.reduceSub, Array.replicate_succ, Array.replicate_zero, List.push_toArray, List.append_toArray, List.nil_append, List.cons_append]
  gi_wp2
  gi_loopw [4, 10] (fun v i wr => ∃ k : Nat, k ≤ ls.length ∧ i = .int .i64 k ∧ v = .int .i64 (wasAt 0 (ls.take k)) ∧ Aside0 (J (spansFrom n 0 (ls.take k)) wr) ∧ Aside0 (Below w0.heap.size w0 wr) ∧ Aside0 (wr.heap[Bn]? = some (Obj.cells #[.int .i64 n] 2 (0, 0))) ∧ Aside0 (W.heap.size ≤ wr.heap.size))
    (fun _ i _ => ls.length - (intOf i).toNat)
  case atStart => exact ⟨0, Nat.zero_le _, rfl, rfl, ⟨h0⟩, HB, HBN, ⟨Nat.le_refl _⟩⟩
  case round =>
    obtain ⟨k, hk, rfl, rfl, HJk, HBk, HNk, HSk⟩ := hrel
    by_cases hlt : k < ls.length
    · obtain ⟨ad, e1, hx0, hx1⟩ := at_T27 (Kd.C_below HC.out HBk.out) k (by omega) (by omega)
      cases e1
      simp only [Int.toNat_natCast] at hx0 hx1
      have hmem : rd_T27 ls k ∈ ls := by
        simp only [rd_T27, Int.toNat_natCast, List.getD_eq_getElem?_getD, List.getElem?_eq_getElem hlt]
        exact List.getElem_mem hlt
      have hst := take_one27 ls k hlt
      have hr := wasAt_range (ls.take k) (fun t ht => HLS.out t (List.mem_of_mem_take ht)) 0 (by omega) (by omega)
      have hf := HLS.out _ hmem
      clear hmem
      obtain ⟨⟨f0, f1⟩, ht⟩ : ∃ t, rd_T27 ls k = t := ⟨_, rfl⟩
      rw [ht] at hx0 hx1 hst hf
      dsimp only at hx0 hx1 hf
      unfold I64 at hf
      obtain ⟨hf1, hf2⟩ := hf
      obtain ⟨V, hV⟩ : ∃ V, wasAt 0 (ls.take k) = V := ⟨_, rfl⟩
      rw [hV] at hr ⊢
      obtain ⟨hr1, hr2⟩ := hr
      have HV := Aside0.mk hV
      have HST := Aside0.mk hst
      have HT := Aside0.mk ht
      clear hV hst ht
      have hbn : wr.cell? ⟨Bn, 0, none⟩ = some (.int .i64 n) := (cell_of_row wr Bn 0 _ _ _ HNk.out).trans rfl
      have hbl : Bn < wr.heap.size := (Array.getElem?_eq_some_iff.1 HNk.out).1
      have HJa := Aside0.mk (HJ.out _ _ (wr.alloc (Obj.cells #[.int .i64 f0, .int .i64 f1] 27)) none HJk.out (World.grownBy_alloc _ _ none) (fun r e => by cases e))
      have hbx : (wr.alloc (Obj.cells #[.int .i64 f0, .int .i64 f1] 27)).heap[wr.heap.size]? = some (Obj.cells #[.int .i64 f0, .int .i64 f1] 27 (0, 0)) := heap_alloc_new wr _
      have HBX := Aside0.mk hbx
      have HBA := Aside0.mk (below_alloc (Below.refl wr.heap.size wr) (Obj.cells #[.int .i64 f0, .int .i64 f1] 27))
      clear hbx
      have hlen2 : (spansFrom n 0 (ls.take k)).length < ls.length := by rw [spansFrom_length, List.length_take]; omega
      obtain ⟨E, hE⟩ : ∃ E, endOf n ⟨f0, f1⟩ = E := ⟨_, rfl⟩
      have hE0 : 0 ≤ E := by rw [← hE]; unfold endOf; split <;> (try split) <;> omega
      have hE1 : E < 9223372036854775808 := by rw [← hE]; unfold endOf; split <;> (try split) <;> omega
      obtain ⟨SP, hSP⟩ : ∃ S, (if 0 < E - V then E - V else 0) = S := ⟨_, rfl⟩
      have hsp : spanOf n V ⟨f0, f1⟩ = SP := by unfold spanOf; rw [hE]; exact hSP
      obtain ⟨V2, hV2⟩ : ∃ S, (if V < f0 then f0 else V) = S := ⟨_, rfl⟩
      have hwo : wasOf V ⟨f0, f1⟩ = V2 := hV2
      have HSTEP : Aside0 (spansFrom n 0 (ls.take (k + 1)) = spansFrom n 0 (ls.take k) ++ [(⟨f0, f1⟩, SP)] ∧ wasAt 0 (ls.take (k + 1)) = V2) := ⟨by
        rw [HST.out, spansFrom_append, wasAt_snoc, HV.out, hwo]
        exact ⟨by rw [← hsp]; rfl, rfl⟩⟩
      clear hsp hwo
      have HPre : Aside0 (∀ pre, pre <+: spansFrom n 0 (ls.take (k + 1)) → pre <+: spansFrom n 0 ls) := ⟨fun pre hp => hp.trans (by
        conv => rhs; rw [← List.take_append_drop (k + 1) ls]
        rw [spansFrom_append]
        exact List.prefix_append _ _)⟩
      obtain ⟨fn, tmps, assign, body, hy, hR⟩ := hY _ (⟨f0, f1⟩, SP) _ HJa.out hlen2 (by
        obtain ⟨c, hc⟩ := HPre.out _ (List.prefix_refl _)
        rw [← hc, HSTEP.out.1]
        simp)
      dsimp only [encsT] at hy
      clear hlen2
      have hc1 : (0 < E - V ∧ SP = E - V) ∨ (E - V ≤ 0 ∧ SP = 0) := by rw [← hSP]; split <;> omega
      have hc2 : (V < f0 ∧ f0 = V2) ∨ (f0 ≤ V ∧ V = V2) := by rw [← hV2]; split <;> omega
      have hc3 : (0 < f0 ∧ f0 < n ∧ f0 = E) ∨ (0 < f0 ∧ n ≤ f0 ∧ n = E) ∨ (f0 ≤ 0 ∧ n = E) := by rw [← hE]; unfold endOf; dsimp only; split <;> (try split) <;> omega
      clear hSP hV2 hE
      have RC : ∀ W3, KpT w0.heap.size Bn (wr.alloc (Obj.cells #[.int .i64 f0, .int .i64 f1] 27)) W3 → Below w0.heap.size w0 W3 ∧ W3.heap[Bn]? = some (Obj.cells #[.int .i64 n] 2 (0, 0)) ∧ W.heap.size ≤ W3.heap.size ∧ W3.cell? ⟨wr.heap.size, 0, none⟩ = some (.int .i64 f0) := fun W3 hk3 =>
        ⟨HBk.out.trans ((below_weak_ HBA.out HBk.out.size).trans hk3.1), hk3.2.2 _ ((Below.heap_alloc wr _ Bn hbl).trans HNk.out), Nat.le_trans HSk.out (Nat.le_trans HBA.out.size hk3.1.size), (cell_of_row W3 wr.heap.size 0 _ _ _ (hk3.2.1 _ _ _ HBX.out)).trans rfl⟩
      have RC := Aside0.mk RC
      rcases hc3 with ⟨hp, hq, rfl⟩ | ⟨hp, hq, rfl⟩ | ⟨hp, rfl⟩ <;> rcases hc1 with ⟨hd, rfl⟩ | ⟨hd, rfl⟩ <;> rcases hc2 with ⟨hw, rfl⟩ | ⟨hw, rfl⟩
      all_goals try (exfalso; omega)
      all_goals
        gi_wp2
        refine hR.mono ?_
        rintro e W3 (⟨rfl, hJ3, hk3⟩ | ⟨rfl, hJx3⟩)
        · obtain ⟨r1, r2, r3, c0⟩ := RC.out W3 hk3
          have HJ3 := Aside0.mk hJ3
          have HR1 := Aside0.mk r1
          have HR2 := Aside0.mk r2
          have HR3 := Aside0.mk r3
          clear hJ3 hk3 hR hy r1 r2 r3
          gi_wp2
          go_roundw
          case rel => exact ⟨k + 1, by omega, by simp, by rw [HSTEP.out.2], ⟨by rw [HSTEP.out.1]; exact HJ3.out⟩, HR1, HR2, HR3⟩
          case measure => simp [intOf]; omega
        · have HJ3 := Aside0.mk hJx3
          clear hJx3 hR hy
          gi_wp2
          refine bodyPost_ret (results_none rfl _ _ _) rfl ?_
          exact ⟨⟨_, rfl⟩, .inr ⟨_, HPre.out _ (by rw [HSTEP.out.1]; exact List.prefix_refl _), HJ3.out⟩⟩
    · obtain rfl : k = ls.length := by omega
      have HJe : Aside0 (J (spansFrom n 0 ls) wr) := ⟨by have := HJk.out; rwa [List.take_length] at this⟩
      gi_wp2
      go_end0
      exact ⟨⟨_, rfl⟩, .inl ⟨_, rfl, HJe.out⟩⟩
end Go.Proofs.Ythgfdgkmmlbohaa.Ext
