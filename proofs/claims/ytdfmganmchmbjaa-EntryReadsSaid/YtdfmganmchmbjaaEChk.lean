/- entry.posts and entry.bills, proved by walking their code. -/
import Derived.Test.YtdfmganmchmbjaaPZx0
import Derived.Test.YtdfmganmchmbjaaNum
import Derived.Test.YtdfmganmchmbjaaWMath
namespace Go.Proofs.Ytdfmganmchmbjaa.Ext
open Go.RowKit Go.Proofs.YtdfmganmchmbjaaW.PrintWords Go.Proofs.YtdfmganmchmbjaaW.PrintLast Go.Proofs.YtdfmganmchmbjaaW.PrintMore Go.Proofs.YtdfmganmchmbjaaW.Hand Go.Proofs.Ytdfmganmchmbjaa.PZ
set_option linter.unusedVariables false
/-- May a part not be? -/
def pbad (x : S37) : Bool := x.f0.toList.isEmpty || decide (32 < (x.f0.size : Int)) || x.f1 == 0 || decide (x.f1 < -4611686018427387904) || decide (4611686018427387904 < x.f1)
set_option maxRecDepth 100000 in
set_option maxHeartbeats 1600000 in
theorem pbad_calls (s : ByteArray) (a : Int) (w : World) : Calls Try.prog 52 #[.agg #[.string s, .int .i64 a]] w fun e w' => e = .returned (.bool (pbad ⟨s, a⟩)) ∧ Below w.heap.size w w' := by
  go_enter Try.func52, Try.ntmps52
  go_wp2_with fail
  all_goals
    go_ret
    refine ⟨?_, below_alloc (Below.refl _ _) _⟩
    simp [pbad, *]
/-- May a line not be? -/
def lbad (x : S53) : Bool := decide (x.f0 < 1) || decide (3 < x.f0) || decide (x.f2 < 0) || decide (x.f3 < 0) || decide (x.f4 < 0)
set_option maxRecDepth 100000 in
set_option maxHeartbeats 1600000 in
theorem lbad_calls (a b c d e : Int) (w : World) : Calls Try.prog 55 #[.agg #[.int .u8 a, .int .u32 b, .int .i64 c, .int .i64 d, .int .i64 e]] w fun e' w' => e' = .returned (.bool (lbad ⟨a, b, c, d, e⟩)) ∧ Below w.heap.size w w' := by
  go_enter Try.func55, Try.ntmps55
  go_wp2_with fail
  all_goals
    go_ret
    refine ⟨?_, below_alloc (Below.refl _ _) _⟩
    simp [lbad, *]
theorem any_take {α : Type} (l : List α) (d : α) (p : α → Bool) (j : Nat) (h : j < l.length) : (l.take (j + 1)).any p = ((l.take j).any p || p (l.getD j d)) := by
  rw [take_one l d j h]; simp
set_option maxRecDepth 100000 in
set_option maxHeartbeats 1600000 in
theorem index_parts (A : Option Addr) (c : Nat) (l : List S37) (w : World) (hC : Kd.C k37 w A l.length l) :
    Calls Try.prog 68 #[.slice A l.length c, .func (Fn.func 52) #[] #[]] w fun e w' => ∃ r : Int, e = .returned (.int .i64 r) ∧ (decide (0 ≤ r) = l.any pbad) ∧ Below w.heap.size w w' := by
  have HC := Aside0.mk hC
  clear hC
  have hmax := Kd.C_max HC.out
  go_enter Try.func68, Try.ntmps68
  go_wp2_with fail
  go_loopw [8] (fun i wr => ∃ j : Nat, j ≤ l.length ∧ i = .int .i64 j ∧ Aside0 ((l.take j).any pbad = false) ∧ Aside0 (Below w.heap.size w wr)) (fun i _ => l.length - (intOf i).toNat)
  case atStart => exact ⟨0, by omega, by rfl, ⟨rfl⟩, ⟨Below.refl _ _⟩⟩
  case round =>
    obtain ⟨j, hj, rfl, HA, HB⟩ := hrel
    by_cases hlt : j < l.length
    · obtain ⟨ad, e1, hx0, hx1⟩ := at_T37 (Kd.C_below HC.out HB.out) j (by omega) (by omega)
      cases e1
      have hst := any_take l z37 pbad j hlt
      have hrd : rd_T37 l (j : Int) = l.getD j z37 := rfl
      obtain ⟨⟨f0, f1⟩, ht⟩ : ∃ t, rd_T37 l (j : Int) = t := ⟨_, rfl⟩
      rw [ht] at hx0 hx1
      rw [← hrd, ht, HA.out, Bool.false_or] at hst
      simp only [Int.toNat_natCast] at hx0 hx1
      clear ht hrd
      have ew9 : IntKind.i64.wrap ((j : Int) + 1) = (j : Int) + 1 := by rw [IntKind.wrap_i64]; omega
      have hj1 : (j : Int) < (l.length : Int) := by omega
      have HST := Aside0.mk hst
      clear hst
      go_wp2_with fail
      refine (pbad_calls f0 f1 wr).mono ?_
      rintro e w2 ⟨rfl, hb2⟩
      have HB2 := Aside0.mk (below_step HB.out hb2)
      clear hb2
      cases hq : pbad ⟨f0, f1⟩ with
      | true =>
        rw [hq] at HST
        go_wp2_with fail
        go_ret
        refine ⟨(j : Int), rfl, ?_, HB2.out⟩
        rw [decide_eq_true (by omega : (0 : Int) ≤ (j : Int))]
        symm
        rw [← List.take_append_drop (j + 1) l, List.any_append, HST.out, Bool.true_or]
      | false =>
        rw [hq] at HST
        go_wp2_with fail
        exact ⟨⟨j + 1, by omega, by simp, HST, HB2⟩, by simp [intOf]; omega⟩
    · obtain rfl : j = l.length := by omega
      rw [List.take_length] at HA
      go_wp2_with fail
      go_ret
      exact ⟨-1, rfl, by rw [HA.out]; rfl, HB.out⟩
theorem contains_parts (A : Option Addr) (c : Nat) (l : List S37) (w : World) (hC : Kd.C k37 w A l.length l) :
    Calls Try.prog 51 #[.slice A l.length c, .func (Fn.func 52) #[] #[]] w fun e w' => e = .returned (.bool (l.any pbad)) ∧ Below w.heap.size w w' := by
  have k1 := Aside0.mk (index_parts A c l w hC)
  clear hC
  go_enter Try.func51, Try.ntmps51
  go_wp2_with fail
  refine k1.out.mono ?_
  rintro e w1 ⟨r, rfl, hr, hb⟩
  have HB := Aside0.mk hb
  have HR := Aside0.mk hr
  clear hb hr k1
  go_wp2_with fail
  go_ret
  exact ⟨congrArg (fun b => Ending.returned (Value.bool b)) HR.out, HB.out⟩
set_option maxRecDepth 100000 in
set_option maxHeartbeats 1600000 in
theorem index_lines (A : Option Addr) (c : Nat) (l : List S53) (w : World) (hC : Kd.C k53 w A l.length l) :
    Calls Try.prog 69 #[.slice A l.length c, .func (Fn.func 55) #[] #[]] w fun e w' => ∃ r : Int, e = .returned (.int .i64 r) ∧ (decide (0 ≤ r) = l.any lbad) ∧ Below w.heap.size w w' := by
  have HC := Aside0.mk hC
  clear hC
  have hmax := Kd.C_max HC.out
  go_enter Try.func69, Try.ntmps69
  go_wp2_with fail
  go_loopw [8] (fun i wr => ∃ j : Nat, j ≤ l.length ∧ i = .int .i64 j ∧ Aside0 ((l.take j).any lbad = false) ∧ Aside0 (Below w.heap.size w wr)) (fun i _ => l.length - (intOf i).toNat)
  case atStart => exact ⟨0, by omega, by rfl, ⟨rfl⟩, ⟨Below.refl _ _⟩⟩
  case round =>
    obtain ⟨j, hj, rfl, HA, HB⟩ := hrel
    by_cases hlt : j < l.length
    · obtain ⟨ad, e1, hx0, hx1, hx2, hx3, hx4⟩ := at_T53 (Kd.C_below HC.out HB.out) j (by omega) (by omega)
      cases e1
      have hst := any_take l z53 lbad j hlt
      have hrd : rd_T53 l (j : Int) = l.getD j z53 := rfl
      obtain ⟨⟨f0, f1, f2, f3, f4⟩, ht⟩ : ∃ t, rd_T53 l (j : Int) = t := ⟨_, rfl⟩
      rw [ht] at hx0 hx1 hx2 hx3 hx4
      rw [← hrd, ht, HA.out, Bool.false_or] at hst
      simp only [Int.toNat_natCast] at hx0 hx1 hx2 hx3 hx4
      clear ht hrd
      have ew9 : IntKind.i64.wrap ((j : Int) + 1) = (j : Int) + 1 := by rw [IntKind.wrap_i64]; omega
      have hj1 : (j : Int) < (l.length : Int) := by omega
      have HST := Aside0.mk hst
      clear hst
      go_wp2_with fail
      refine (lbad_calls f0 f1 f2 f3 f4 wr).mono ?_
      rintro e w2 ⟨rfl, hb2⟩
      have HB2 := Aside0.mk (below_step HB.out hb2)
      clear hb2
      cases hq : lbad ⟨f0, f1, f2, f3, f4⟩ with
      | true =>
        rw [hq] at HST
        go_wp2_with fail
        go_ret
        refine ⟨(j : Int), rfl, ?_, HB2.out⟩
        rw [decide_eq_true (by omega : (0 : Int) ≤ (j : Int))]
        symm
        rw [← List.take_append_drop (j + 1) l, List.any_append, HST.out, Bool.true_or]
      | false =>
        rw [hq] at HST
        go_wp2_with fail
        exact ⟨⟨j + 1, by omega, by simp, HST, HB2⟩, by simp [intOf]; omega⟩
    · obtain rfl : j = l.length := by omega
      rw [List.take_length] at HA
      go_wp2_with fail
      go_ret
      exact ⟨-1, rfl, by rw [HA.out]; rfl, HB.out⟩
theorem contains_lines (A : Option Addr) (c : Nat) (l : List S53) (w : World) (hC : Kd.C k53 w A l.length l) :
    Calls Try.prog 54 #[.slice A l.length c, .func (Fn.func 55) #[] #[]] w fun e w' => e = .returned (.bool (l.any lbad)) ∧ Below w.heap.size w w' := by
  have k1 := Aside0.mk (index_lines A c l w hC)
  clear hC
  go_enter Try.func54, Try.ntmps54
  go_wp2_with fail
  refine k1.out.mono ?_
  rintro e w1 ⟨r, rfl, hr, hb⟩
  have HB := Aside0.mk hb
  have HR := Aside0.mk hr
  clear hb hr k1
  go_wp2_with fail
  go_ret
  exact ⟨congrArg (fun b => Ending.returned (Value.bool b)) HR.out, HB.out⟩
def eposts (a0 a1 : Int) (l : List S37) : Bool := decide (0 < a0) && decide (0 ≤ a1) && decide (a1 ≤ 137438953472) && decide ((0 : Int) < l.length) && decide ((l.length : Int) ≤ 16) && !(l.any pbad)
set_option maxRecDepth 100000 in
set_option maxHeartbeats 1600000 in
theorem posts_calls (a0 a1 a2 : Int) (A : Option Addr) (c : Nat) (l : List S37) (w : World) (hC : Kd.C k37 w A l.length l) :
    Calls Try.prog 27 #[.agg #[.int .u64 a0, .int .i64 a1, .int .u32 a2, .slice A l.length c]] w fun e w' => e = .returned (.bool (eposts a0 a1 l)) ∧ Below w.heap.size w w' := by
  have kc := Aside0.mk (fun w hC => contains_parts A c l w hC)
  have HC := Aside0.mk hC
  clear hC
  obtain ⟨q, hq⟩ : ∃ q, l.any pbad = q := ⟨_, rfl⟩
  have HQ := Aside0.mk hq
  rw [hq] at kc
  clear hq
  go_enter Try.func27, Try.ntmps27
  go_wp2_with fail
  all_goals first
    | (go_ret
       refine ⟨?_, below_alloc (Below.refl _ _) _⟩
       (simp [eposts, *]) <;> (intros; omega))
    | (refine (kc.out _ (Kd.C_below HC.out (below_alloc (Below.refl _ _) _))).mono ?_
       rintro e w2 ⟨rfl, hb⟩
       have HB := Aside0.mk (below_step (below_alloc (Below.refl _ _) _) hb)
       clear hb
       go_wp2_with fail
       go_ret
       refine ⟨?_, HB.out⟩
       (simp [eposts, HQ.out, *]) <;> (intros; omega))
def ebills (a0 a1 a4 a5 : Int) (l : List S53) : Bool := decide (0 < a0) && decide (0 < a1) && decide ((l.length : Int) ≤ 28) && decide (0 ≤ a4) && decide (0 ≤ a5) && !(l.any lbad)
set_option maxRecDepth 100000 in
set_option maxHeartbeats 1600000 in
theorem bills_calls (a0 a1 a2 a4 a5 : Int) (A : Option Addr) (c : Nat) (l : List S53) (w : World) (hC : Kd.C k53 w A l.length l) :
    Calls Try.prog 31 #[.agg #[.int .u32 a0, .int .u32 a1, .int .i64 a2, .slice A l.length c, .int .i64 a4, .int .i64 a5]] w fun e w' => e = .returned (.bool (ebills a0 a1 a4 a5 l)) ∧ Below w.heap.size w w' := by
  have kc := Aside0.mk (fun w hC => contains_lines A c l w hC)
  have HC := Aside0.mk hC
  clear hC
  obtain ⟨q, hq⟩ : ∃ q, l.any lbad = q := ⟨_, rfl⟩
  have HQ := Aside0.mk hq
  rw [hq] at kc
  clear hq
  go_enter Try.func31, Try.ntmps31
  go_wp2_with fail
  all_goals first
    | (go_ret
       refine ⟨?_, below_alloc (Below.refl _ _) _⟩
       (simp [ebills, *]) <;> (intros; omega))
    | (refine (kc.out _ (Kd.C_below HC.out (below_alloc (Below.refl _ _) _))).mono ?_
       rintro e w2 ⟨rfl, hb⟩
       have HB := Aside0.mk (below_step (below_alloc (Below.refl _ _) _) hb)
       clear hb
       go_wp2_with fail
       go_ret
       refine ⟨?_, HB.out⟩
       (simp [ebills, HQ.out, *]) <;> (intros; omega))
end Go.Proofs.Ytdfmganmchmbjaa.Ext
