/- The iterator of package plan (numbers), proved by walking its code. -/
import Derived.RangeFuncBox
import Derived.RangeFuncNested
import Derived.RangeFuncLeaves
import Derived.RangeFuncBound
import Derived.Shelf.Abstract
import Derived.WalkKit
import Derived.OwnWalkIn
import Derived.TacticsInMore
import Derived.LoopNIn
import Derived.LoopIn
import Derived.Deep.RegionHeld3
import Derived.Test.YtifacclmfjmilaaPZx0
import Derived.Test.YtifacclmfjmilaaH
namespace Go.Proofs.Ytifacclmfjmilaa.Ext
open Go.RowKit Go.Shelf Go.Proofs.YtifacclmfjmilaaW.PrintWords Go.Proofs.YtifacclmfjmilaaW.PrintLast Go.Proofs.YtifacclmfjmilaaW.PrintMore Go.Proofs.YtifacclmfjmilaaW.Hand Go.Proofs.Ytifacclmfjmilaa.PZ
attribute [local go_sem] Oper.semAt_some
set_option linter.unusedVariables false
/-- The greatest that a number may be. -/
def mostOf (i : Nat) : Int := if i < 4 then 1099511627776 else 1125899906842624
abbrev N5 := { i : Nat // i < 5 }
abbrev encsN (Bp : Nat) (i : Nat) : Array Value := #[.pointer (some ⟨Bp, i + 1, none⟩), .int .i64 (mostOf i)]
/-- What a round keeps: pointers in cells. -/
def KpN (W W' : World) : Prop := W.heap.size ≤ W'.heap.size ∧ ∀ (k t : Nat) (c : Array Value) (fr : Nat × Nat), (t = 51 ∨ t = 52) → W.heap[k]? = some (Obj.cells c t fr) → W'.heap[k]? = some (Obj.cells c t fr)
theorem KpN.refl (W : World) : KpN W W := ⟨Nat.le_refl _, fun _ _ _ _ _ h => h⟩
theorem KpN.trans {A B C : World} (h : KpN A B) (k : KpN B C) : KpN A C := ⟨Nat.le_trans h.1 k.1, fun j t c fr ht hj => k.2 j t c fr ht (h.2 j t c fr ht hj)⟩
theorem kpn_b (W : World) (l : Nat) (o o' : Obj) (h : W.heap[l]? = some o) (hc : o.isCells = false) : KpN W (W.putObj l o') :=
  ⟨by simp, fun k t c fr _ hk => (World.putObj_heap_other (fun e => by subst e; rw [hk] at h; cases h; cases hc)).trans hk⟩
theorem kpn_below {W W' : World} (h : Below W.heap.size W W') : KpN W W' := ⟨h.size, fun k t c fr _ hk => (h.block k (Array.getElem?_eq_some_iff.1 hk).1).trans hk⟩
theorem kpn_grown {W W' : World} {row : Option Nat} (h : W.grownBy W' row) (hr : ∀ g, row = some g → ∀ o, W.heap[g]? = some o → ∃ c t fr, o = Obj.cells c t fr ∧ t ≠ 51 ∧ t ≠ 52) : KpN W W' :=
  ⟨h.size, fun k t c fr ht hk => (h.block k (Array.getElem?_eq_some_iff.1 hk).1 (fun e => by
    obtain ⟨c2, t2, fr2, e2, h1, h2⟩ := hr k e.symm _ hk
    injection e2 with _ e3
    rcases ht with ht | ht
    · exact h1 (e3 ▸ ht)
    · exact h2 (e3 ▸ ht))).trans hk⟩
set_option maxRecDepth 100000 in
set_option maxHeartbeats 2000000 in
theorem numbers1_in (m : Nat) (hn : 1 ≤ m) (l Bx Bp : Nat) (J Jx : List Nat → World → Prop) (W : World) (hJ : AbidesFrom W.heap.size J)
    (hBx : W.heap[Bx]? = some (Obj.cells #[.pointer (some ⟨Bp, 0, none⟩)] 51 (0, 0)))
    (hY : ∀ pre x W, J pre W → pre.length < 5 → x < 5 → YieldAt Fence.wide (m - 1) Try.prog l (encsN Bp x) W fun e W' =>
      (e = .returned (.bool true) ∧ J (pre ++ [x]) W' ∧ KpN W W') ∨ (e = .returned (.bool false) ∧ Jx (pre ++ [x]) W'))
    (h0 : J [] W) :
    CallsIn Fence.wide m Try.prog 33 #[.func (.yield l) #[] #[], .pointer (some ⟨Bx, 0, none⟩)] W fun e W' => (∃ v, e = .returned v) ∧
      ((∃ ys, ys = List.range 5 ∧ J ys W') ∨ (∃ pre, pre <+: List.range 5 ∧ Jx pre W')) := by
  have HBX := Aside0.mk hBx
  have HJ := Aside0.mk hJ
  have hc := (cell_of_row W Bx 0 _ _ _ hBx).trans (rfl : (#[Value.pointer (some ⟨Bp, 0, none⟩)] : Array Value)[0]? = some (.pointer (some ⟨Bp, 0, none⟩)))
  clear hBx hJ
  refine callsIn_of_wp Try.func33 rfl trivial ?_ rfl
  simp only [Try.ntmps33, List.size_toArray, List.length_cons, List.length_nil, Nat.reduceAdd, Nat.reduceSub, Array.replicate_succ, Array.replicate_zero, List.push_toArray, List.append_toArray, List.nil_append, List.cons_append]
  refine wpIn_wide.2 ?_
  go_wp2_with fail
  refine wp_region_noPanic ?_
  go_region_held (fun w' => w'.cell? ⟨Bx, 0, none⟩ = some (.pointer (some ⟨Bp, 0, none⟩))) (go_keep) (fail)
  refine NoPanic.normal ?_
  obtain ⟨S0, hS0⟩ : ∃ S, W.heap.size = S := ⟨_, rfl⟩
  have hblk : ((W.alloc (Obj.cells #[.pointer (some ⟨Bp, 1, none⟩), .pointer (some ⟨Bp, 2, none⟩), .pointer (some ⟨Bp, 3, none⟩), .pointer (some ⟨Bp, 4, none⟩)] 52)).drew).heap[S0]? = some (Obj.cells #[.pointer (some ⟨Bp, 1, none⟩), .pointer (some ⟨Bp, 2, none⟩), .pointer (some ⟨Bp, 3, none⟩), .pointer (some ⟨Bp, 4, none⟩)] 52 (0, 0)) := by rw [← hS0]; exact heap_alloc_new W _
  have hbel : Below W.heap.size W ((W.alloc (Obj.cells #[.pointer (some ⟨Bp, 1, none⟩), .pointer (some ⟨Bp, 2, none⟩), .pointer (some ⟨Bp, 3, none⟩), .pointer (some ⟨Bp, 4, none⟩)] 52)).drew) := below_drew (below_alloc (Below.refl _ _) _)
  rw [hS0]
  obtain ⟨W2, hW2⟩ : ∃ W2, ((W.alloc (Obj.cells #[.pointer (some ⟨Bp, 1, none⟩), .pointer (some ⟨Bp, 2, none⟩), .pointer (some ⟨Bp, 3, none⟩), .pointer (some ⟨Bp, 4, none⟩)] 52)).drew) = W2 := ⟨_, rfl⟩
  rw [hW2] at hblk hbel ⊢
  have HBX2 := Aside0.mk ((hbel.block Bx (Array.getElem?_eq_some_iff.1 HBX.out).1).trans HBX.out)
  have HJ0 := Aside0.mk (HJ.out _ _ W2 none h0 (grown_below hbel) (fun r e => by cases e))
  have HBLK := Aside0.mk hblk
  clear hblk hbel hc hW2 HBX hS0
  go_wp2_with fail
  refine (wpIn_wide (n := m)).1 ?_
  gi_loopw [19] (fun i wr => ∃ k : Nat, k ≤ 4 ∧ i = .int .i64 k ∧ Aside0 (J (List.range k) wr) ∧ Aside0 (KpN W2 wr)) (fun i _ => 4 - (intOf i).toNat)
  case atStart => exact ⟨0, Nat.zero_le _, rfl, HJ0, ⟨KpN.refl _⟩⟩
  case round =>
    obtain ⟨k, hk, rfl, HJk, HK⟩ := hrel
    have hb := HK.out.2 _ _ _ _ (.inr rfl) HBLK.out
    have c0 := (cell_of_row wr S0 0 _ _ _ hb).trans (rfl : _ = some (Value.pointer (some ⟨Bp, 1, none⟩)))
    have c1 := (cell_of_row wr S0 1 _ _ _ hb).trans (rfl : _ = some (Value.pointer (some ⟨Bp, 2, none⟩)))
    have c2 := (cell_of_row wr S0 2 _ _ _ hb).trans (rfl : _ = some (Value.pointer (some ⟨Bp, 3, none⟩)))
    have c3 := (cell_of_row wr S0 3 _ _ _ hb).trans (rfl : _ = some (Value.pointer (some ⟨Bp, 4, none⟩)))
    clear hb
    by_cases hlt : k < 4
    · have hmo : mostOf k = 1099511627776 := by unfold mostOf; rw [if_pos hlt]
      obtain ⟨fn, tmps, assign, body, hy, hR⟩ := hY _ k wr HJk.out (by simp; omega) (by omega)
      dsimp only [encsN] at hy
      rw [hmo] at hy
      have hsn : List.range (k + 1) = List.range k ++ [k] := List.range_succ
      have HSN := Aside0.mk hsn
      have HPre : Aside0 (List.range k ++ [k] <+: List.range 5) := ⟨by
        rw [← hsn]
        have e : List.range (k + 1) = (List.range 5).take (k + 1) := by rw [List.take_range, Nat.min_eq_left (by omega)]
        rw [e]
        exact List.take_prefix _ _⟩
      clear hsn hmo
      have hk4 : k = 0 ∨ k = 1 ∨ k = 2 ∨ k = 3 := by omega
      rcases hk4 with rfl | rfl | rfl | rfl
      all_goals
        gi_wp2
        refine hR.mono ?_
        rintro e W3 (⟨rfl, hJ3, hk3⟩ | ⟨rfl, hJx3⟩)
        · have HJ3 := Aside0.mk hJ3
          have HK3 := Aside0.mk (HK.out.trans hk3)
          clear hJ3 hk3 hR hy c0 c1 c2 c3
          gi_wp2
          go_roundw
          case rel =>
            have HJ4 := HJ3.out
            rw [← HSN.out] at HJ4
            first | exact ⟨1, by omega, rfl, ⟨HJ4⟩, HK3⟩ | exact ⟨2, by omega, rfl, ⟨HJ4⟩, HK3⟩ | exact ⟨3, by omega, rfl, ⟨HJ4⟩, HK3⟩ | exact ⟨4, by omega, rfl, ⟨HJ4⟩, HK3⟩
          case measure => simp [intOf]
        · have HJ3 := Aside0.mk hJx3
          clear hJx3 hR hy c0 c1 c2 c3
          gi_wp2
          refine bodyPost_ret (results_none rfl _ _ _) rfl ?_
          exact ⟨⟨_, rfl⟩, .inr ⟨_, HPre.out, HJ3.out⟩⟩
    · obtain rfl : k = 4 := by omega
      have hb2 := HK.out.2 _ _ _ _ (.inl rfl) HBX2.out
      have hc2 := (cell_of_row wr Bx 0 _ _ _ hb2).trans (rfl : _ = some (Value.pointer (some ⟨Bp, 0, none⟩)))
      clear hb2
      obtain ⟨fn, tmps, assign, body, hy, hR⟩ := hY _ 4 wr HJk.out (by simp) (by omega)
      dsimp only [encsN] at hy
      rw [show mostOf 4 = 1125899906842624 from rfl] at hy
      gi_wp2
      refine (wpIn_wide (n := m)).1 ?_
      gi_wp2
      refine hR.mono ?_
      rintro e W3 (⟨rfl, hJ3, hk3⟩ | ⟨rfl, hJx3⟩)
      · have HJ3 := Aside0.mk hJ3
        clear hJ3 hk3 hR hy c0 c1 c2 c3 hc2
        gi_wp2
        go_end0
        exact ⟨⟨_, rfl⟩, .inl ⟨_, rfl, HJ3.out⟩⟩
      · have HJ3 := Aside0.mk hJx3
        clear hJx3 hR hy c0 c1 c2 c3 hc2
        gi_wp2
        go_end0
        exact ⟨⟨_, rfl⟩, .inr ⟨_, List.prefix_refl _, HJ3.out⟩⟩
end Go.Proofs.Ytifacclmfjmilaa.Ext
