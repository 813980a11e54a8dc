/- GateKnown, walked. -/
import Derived.Test.YtpadajkdpldliaaAsks
namespace Go.Proofs.Ytpadajkdpldliaa.Ext
open Go.RowKit Go.Proofs.YtpadajkdpldliaaW.PrintWords Go.Proofs.YtpadajkdpldliaaW.PrintLast Go.Proofs.YtpadajkdpldliaaW.PrintMore Go.Proofs.YtpadajkdpldliaaW.Hand
set_option linter.unusedVariables false
/-- So many empty requests. -/
def qn (k : Nat) : List Rq := (List.range k).map (fun j : Nat => ((j : Int) + 1, []))
theorem qn_length (k : Nat) : (qn k).length = k := by simp [qn]
theorem qn_succ (k : Nat) : qn (k + 1) = qn k ++ [((k : Int) + 1, [])] := by simp [qn, List.range_succ]
theorem Ask_nilslice (g B : Nat) (me last : Int) (Q R : List Rq) (w : World) (h : GAt w g B me last Q R) (hq : Q.length < 32) (h0 : 0 ≤ last) (h1 : last + 1 < 18446744073709551616) :
    Calls Try.prog 12 #[.pointer (some ⟨g, 0, none⟩), .slice none 0 0] w fun e w' => e = .returned (.tuple #[.int .u64 (last + 1), .int .i64 0]) ∧ GAt w' g B me (last + 1) (Q ++ [(last + 1, [])]) R ∧ Below B w w' := by
  refine (Ask_ok g B me last Q R none 0 [] w h (fun _ => False) (fun W' _ => Kd.C_nil _ _) (fun _ h => h.elim) hq (by decide) h0 h1).mono ?_
  rintro e w' ⟨rfl, hG, hK, hb⟩
  exact ⟨rfl, hG, hb⟩
set_option maxRecDepth 100000 in
set_option maxHeartbeats 3200000 in
theorem GateKnown.walk (w : World) : Calls Try.prog 8 #[] w fun e w' => e = .returned (.bool true) ∧ Below w.heap.size w w' := by
  have hm : ∀ W : World, (Instr.makeSlice 39 (.int .i64 1001) (.int .i64 1001)).run Try.prog W = .ok (.slice (some ⟨W.heap.size, 0, none⟩) 1001 1001) (W.alloc (.cells (madeCells #[Value.int .u8 0] 1001) 5)) := print_make (P := Try.prog) 39 5 .u8 1 Try.underlying39 infoU8 (by decide) 1001 (by omega)
  obtain ⟨B0, HB0⟩ : ∃ o : Obj, Aside0 (o = .cells (madeCells #[Value.int .u8 0] 1001) 5) := ⟨_, ⟨rfl⟩⟩
  rw [← HB0.out] at hm
  go_enter Try.func8, Try.ntmps8
  go_wp2_with fail
  refine (gNew_bad 0 w (.inl (by decide))).mono ?_
  rintro e w1 ⟨rfl, rfl⟩
  go_wp2_with fail
  refine (gNew_bad 4 w (.inr (by decide))).mono ?_
  rintro e w1 ⟨rfl, rfl⟩
  go_wp2_with fail
  refine (gNew_calls 3 w (by decide) (by decide)).mono ?_
  rintro e w1 ⟨g, rfl, hG, hb⟩
  have HG := Aside0.mk hG
  have HB := Aside0.mk hb
  clear hG hb
  go_wp2_with fail
  refine (Tick_calls g w.heap.size 3 0 [] [] w1 HG.out (fun p hp => by cases hp)).mono ?_
  rintro e w2 ⟨he, hb⟩
  simp only [TickIs] at he
  subst he
  have HG2 := Aside0.mk (HG.out.below hb)
  have HB2 := Aside0.mk (below_then HB.out HB.out.size hb)
  clear hb HG HB
  go_wp2_with fail
  have hBg := Aside0.mk HB2.out.size
  refine (Ask_long g w.heap.size 3 0 [] [] _ _ 1001 _ (HG2.out.below (below_alloc (Below.refl _ _) _)) (by decide) (by decide)).mono ?_
  rintro e w3 ⟨rfl, rfl⟩
  have HG3 := Aside0.mk (HG2.out.below (below_alloc (Below.refl _ _) B0))
  have HB3 := Aside0.mk (below_alloc HB2.out B0)
  clear HG2 HB2
  generalize w2.alloc B0 = W3 at HG3 HB3 ⊢
  go_wp2_with fail
  go_loopw [9] (fun i wr => ∃ k : Nat, k ≤ 32 ∧ i = .int .i64 k ∧ Aside0 (GAt wr g w.heap.size 3 k (qn k) []) ∧ Aside0 (Below w.heap.size w wr)) (fun i _ => 32 - (intOf i).toNat)
  case atStart => exact ⟨0, by decide, rfl, HG3, HB3⟩
  case round =>
    obtain ⟨k, hk, rfl, HGk, HBk⟩ := hrel
    by_cases hlt : k < 32
    · have hlt2 : (k : Int) < 32 := by omega
      have hw1 : IntKind.i64.wrap ((k : Int) + 1) = (k : Int) + 1 := by rw [IntKind.wrap_i64]; omega
      have hw2 : IntKind.u64.wrap ((k : Int) + 1) = (k : Int) + 1 := by rw [IntKind.wrap_u64]; omega
      have ka := Aside0.mk (Ask_nilslice g w.heap.size 3 k (qn k) [] _ HGk.out (by rw [qn_length]; exact hlt) (by omega) (by omega))
      clear hlt
      go_wp2_with fail
      refine ka.out.mono ?_
      rintro e w4 ⟨rfl, hG, hb⟩
      rw [← qn_succ] at hG
      have HG4 := Aside0.mk hG
      have HB4 := Aside0.mk (HBk.out.trans hb)
      clear hG hb
      go_wp2_with fail
      go_roundw
      case rel => exact ⟨k + 1, by omega, by simp, HG4, HB4⟩
      case measure => simp [intOf]; omega
    · have hk32 : k = 32 := by omega
      subst hk32
      clear hk hlt
      have kf := Aside0.mk (Ask_full g w.heap.size 3 32 (qn 32) [] none 0 0 _ HGk.out (by rw [qn_length]; exact Nat.le_refl _))
      go_wp2_with fail
      refine kf.out.mono ?_
      rintro e w4 ⟨rfl, rfl⟩
      go_wp2_with fail
      refine (gPut_calls 1 none 0 [] _ (Kd.C_nil _ _) (by decide) (by decide) (by decide)).mono ?_
      rintro e w5 ⟨v5, rfl, hV, hb⟩
      rw [show lett 1 [] = [0, 0, 0, 0, 0, 0, 0, 1, 0, 0, 0, 0] from by kernel_rfl] at hV
      obtain ⟨A5, c5, ev⟩ := Kd.R_slice hV
      subst ev
      have HV5 := Aside0.mk (Kd.R_reads' hV).2.2
      have HG5 := Aside0.mk (HGk.out.below hb)
      have HB5 := Aside0.mk (below_then HBk.out HBk.out.size hb)
      clear hV hb
      go_wp2_with fail
      refine (Hear_calls g w.heap.size 3 32 (qn 32) [] A5 c5 [0, 0, 0, 0, 0, 0, 0, 1, 0, 0, 0, 0] w5 HG5.out HV5.out (by intro x hx; simp at hx; unfold IsByte; omega) (by decide) (by rw [qn_length]; decide) (by decide)).mono ?_
      rw [show hear (gGet [0, 0, 0, 0, 0, 0, 0, 1, 0, 0, 0, 0]) (qn 32) [] = ((qn 32).tail, [(1, [])]) from by kernel_rfl]
      rintro e w6 ⟨rfl, hG, hK, hb⟩
      have HG6 := Aside0.mk (show GAt w6 g w.heap.size 3 32 (qn 32).tail [(1, [])] from hG)
      have HB6 := Aside0.mk (HB5.out.trans hb)
      clear hG hK hb
      go_wp2_with fail
      refine (Ask_nilslice g w.heap.size 3 32 (qn 32).tail [(1, [])] _ HG6.out (by rw [List.length_tail, qn_length]; decide) (by decide) (by decide)).mono ?_
      rintro e w7 ⟨rfl, hG, hb⟩
      have HG7 := Aside0.mk hG
      have HB7 := Aside0.mk (HB6.out.trans hb)
      clear hG hb
      go_wp2_with fail
      refine (Queue_calls g w.heap.size 3 _ _ _ w7 HG7.out).mono ?_
      rintro e w8 ⟨rfl, rfl⟩
      rw [show ((qn 32).tail ++ [((32 : Int) + 1, ([] : List Int))]).length = 32 from by kernel_rfl]
      go_wp2_with fail
      refine (asks_true _).mono ?_
      rintro e w9 ⟨rfl, hb⟩
      have HB9 := Aside0.mk (below_then HB7.out HB7.out.size hb)
      clear hb
      go_wp2_with fail
      go_ret
      exact ⟨rfl, HB9.out⟩
end Go.Proofs.Ytpadajkdpldliaa.Ext
