/- The iterator of package frame (sectors), proved by walking its code. -/
import Derived.RangeFuncBox
import Derived.RangeFuncNested
import Derived.RangeFuncLeaves
import Derived.RangeFuncBound
import Derived.Shelf.Abstract
import Derived.WalkKit
import Derived.OwnWalkIn
import Derived.TacticsInMore
import Derived.LoopNIn
import Derived.LoopIn
import Derived.Test.YtddajglkefpjdaaProg
import Derived.Test.YtddajglkefpjdaaH
namespace Go.Proofs.Ytddajglkefpjdaa.Ext
open Go.RowKit Go.Shelf Go.Proofs.YtddajglkefpjdaaW.PrintWords Go.Proofs.YtddajglkefpjdaaW.PrintLast Go.Proofs.YtddajglkefpjdaaW.PrintMore Go.Proofs.YtddajglkefpjdaaW.Hand
attribute [local go_sem] Oper.semAt_some
set_option linter.unusedVariables false
abbrev N8 := { i : Nat // i < 8 }
abbrev encsF (i : Nat) : Array Value := #[.int .i64 ((i : Int) * 504), .int .i64 ((i : Int) * 512)]
/-- What a round must keep: nothing. -/
def KpF (W W' : World) : Prop := True
set_option maxRecDepth 100000 in
set_option maxHeartbeats 2000000 in
theorem sectors1_in (m : Nat) (hn : 1 ≤ m) (l : Nat) (J Jx : List Nat → World → Prop) (W : World) (hJ : AbidesFrom W.heap.size J)
    (hY : ∀ pre x W, J pre W → pre.length < 8 → x < 8 → YieldAt Fence.wide (m - 1) Try.prog l (encsF x) W fun e W' =>
      (e = .returned (.bool true) ∧ J (pre ++ [x]) W' ∧ KpF W W') ∨ (e = .returned (.bool false) ∧ Jx (pre ++ [x]) W'))
    (h0 : J [] W) :
    CallsIn Fence.wide m Try.prog 29 #[.func (.yield l) #[] #[]] W fun e W' => (∃ v, e = .returned v) ∧
      ((∃ ys, ys = List.range 8 ∧ J ys W') ∨ (∃ pre, pre <+: List.range 8 ∧ Jx pre W')) := by
  have HJ0 := Aside0.mk h0
  clear h0
  refine callsIn_of_wp Try.func29 rfl trivial ?_ rfl
  simp only [Try.ntmps29, List.size_toArray, List.length_cons, List.length_nil, Nat.reduceAdd, Nat.reduceSub, Array.replicate_succ, Array.replicate_zero, List.push_toArray, List.append_toArray, List.nil_append, List.cons_append]
  gi_wp2
  gi_loopw [3] (fun i wr => ∃ k : Nat, k ≤ 8 ∧ i = .int .i64 k ∧ Aside0 (J (List.range k) wr)) (fun i _ => 8 - (intOf i).toNat)
  case atStart => exact ⟨0, Nat.zero_le _, rfl, HJ0⟩
  case round =>
    obtain ⟨k, hk, rfl, HJk⟩ := hrel
    by_cases hlt : k < 8
    · obtain ⟨fn, tmps, assign, body, hy, hR⟩ := hY _ k wr HJk.out (by simp; omega) hlt
      dsimp only [encsF] at hy
      have hsn : List.range (k + 1) = List.range k ++ [k] := List.range_succ
      have HSN := Aside0.mk hsn
      have HPre : Aside0 (List.range k ++ [k] <+: List.range 8) := ⟨by
        rw [← hsn]
        have e : List.range (k + 1) = (List.range 8).take (k + 1) := by rw [List.take_range, Nat.min_eq_left (by omega)]
        rw [e]
        exact List.take_prefix _ _⟩
      clear hsn
      have HK := Aside0.mk hk
      gi_wp2
      refine hR.mono ?_
      rintro e W3 (⟨rfl, hJ3, hk3⟩ | ⟨rfl, hJx3⟩)
      · have HJ3 := Aside0.mk hJ3
        clear hJ3 hk3 hR hy
        gi_wp2
        go_roundw
        case rel =>
          have HJ4 := HJ3.out
          rw [← HSN.out] at HJ4
          exact ⟨k + 1, by omega, by go_num, ⟨HJ4⟩⟩
        case measure => simp [intOf]; omega
      · have HJ3 := Aside0.mk hJx3
        clear hJx3 hR hy
        gi_wp2
        refine bodyPost_ret (results_none rfl _ _ _) rfl ?_
        exact ⟨⟨_, rfl⟩, .inr ⟨_, HPre.out, HJ3.out⟩⟩
    · obtain rfl : k = 8 := by omega
      gi_wp2
      go_end0
      exact ⟨⟨_, rfl⟩, .inl ⟨_, rfl, HJk.out⟩⟩
set_option linter.unusedSimpArgs false in
theorem sectors_in (F : Fence) (m : Nat) (hF : F.fn 17) (hro : F.round = none) (w : World) :
    CallsIn F m Try.prog 17 #[] w fun e w' => e = .returned (.func (.func 29) #[] #[]) ∧ w' = w := by
  refine callsIn_of_wp Try.func17 rfl hF ?_ hro
  simp only [Try.ntmps17, List.size_toArray, List.length_cons, List.length_nil, Nat.reduceAdd, Nat.reduceSub, Array.replicate_succ, Array.replicate_zero, List.push_toArray, List.append_toArray, List.nil_append, List.cons_append]
  gi_wp2
  go_ret
  exact ⟨rfl, rfl⟩
theorem sectors_stopsT (F : Fence) (m : Nat) (hF : F = Fence.wide) (hn : 1 ≤ m) (wL : World) :
    SeqStopsK F m Try.prog 29 #[] (fun x : N8 => encsF x.1) KpF (fun ys => ys.map Subtype.val = List.range 8) (fun pre => pre.map Subtype.val <+: List.range 8) 8 wL := fun l J Jx W hW hJ hJx hY h0 => by
  subst hF
  refine (sectors1_in m hn l (fun pre W => ∃ p : List N8, p.map Subtype.val = pre ∧ J p W) (fun pre W => ∃ p : List N8, p.map Subtype.val = pre ∧ Jx p W) W (fun s A B row hs hg hr => by
    obtain ⟨p, e, hp⟩ := hs
    exact ⟨p, e, hJ p A B row hp hg hr⟩) (fun pre x W h1 h2 h3 => ?_) ⟨[], rfl, h0⟩).mono ?_
  · obtain ⟨p, rfl, hp⟩ := h1
    refine YieldAt.mono (hY p ⟨x, h3⟩ W hp (by simpa using h2)) ?_
    rintro e W' (⟨rfl, hj, hk⟩ | ⟨rfl, hj⟩)
    · exact .inl ⟨rfl, ⟨_, by simp, hj⟩, hk⟩
    · exact .inr ⟨rfl, _, by simp, hj⟩
  · rintro e W' ⟨he, h⟩
    refine ⟨he, ?_⟩
    rcases h with ⟨ys, rfl, p, hp, hj⟩ | ⟨pre, hpre, p, rfl, hj⟩
    · exact .inl ⟨p, hp, hj⟩
    · exact .inr ⟨p, hpre, hj⟩
end Go.Proofs.Ytddajglkefpjdaa.Ext
