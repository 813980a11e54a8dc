/- The contract of quitrentlaw02.goes, proved by walking its code. -/
import Derived.Test.YtppmkbhknbalaaaExt3
import Derived.Test.YtppmkbhknbalaaaH
namespace Go.Proofs.Ytppmkbhknbalaaa.Ext
open Go.RowKit Go.Proofs.YtppmkbhknbalaaaW.PrintWords Go.Proofs.YtppmkbhknbalaaaW.PrintLast Go.Proofs.YtppmkbhknbalaaaW.PrintMore Go.Proofs.YtppmkbhknbalaaaW.Hand
set_option linter.unusedVariables false

def quitrentlaw02_goes.f : Option Bool := some true
theorem check_digits : crc_Check.f [[49, 50, 51, 52, 53, 54, 55, 56, 57]] = some 3808858755 := by decide +kernel
theorem check_none : crc_Check.f [] = some 0 := by decide +kernel
-- HERE
set_option maxHeartbeats 800000 in
theorem quitrentlaw02_goes.calls (r : Bool) (w : World) (h : quitrentlaw02_goes.f = some r) :
    Calls Try.prog 10 #[] w fun e w' => e = .returned (.bool r) ∧ Below w.heap.size w w' := by
  obtain rfl := Option.some.inj h
  clear h
  have kc := fun (w : World) (C : Array Value) (n c : Nat) => Lib.run_convert_bytes_const (P := Try.prog) w 23 5 C n c Try.underlying23 Try.underlying5
  go_enter Try.func10, Try.ntmps10
  go_wp2_with fail
  have c1 : Kd.C (Kd.slice 5 (Kd.int .u8)) ((w.alloc (Obj.cells #[Value.int .u8 49, .int .u8 50, .int .u8 51, .int .u8 52, .int .u8 53, .int .u8 54, .int .u8 55, .int .u8 56, .int .u8 57] 5 (9, 10))).alloc (Obj.cells #[.slice (some ⟨w.heap.size, 0, none⟩) 9 9] 23)) (some ⟨w.heap.size + 1, 0, none⟩) 1 [[49, 50, 51, 52, 53, 54, 55, 56, 57]] := by
    refine C_slices (xss := [[49, 50, 51, 52, 53, 54, 55, 56, 57]]) (heap_new' _ _ (by rw [size_alloc])) rfl (fun j l hj => ?_) (by decide)
    match j, hj with
    | 0, hj =>
      obtain rfl := Option.some.inj hj
      exact ⟨_, _, rfl, by decide, C_block (xs := [49, 50, 51, 52, 53, 54, 55, 56, 57]) (heap_alloc_lt _ _ (by rw [size_alloc]; omega) (heap_new _ _)) rfl (by decide)⟩
  refine (crc_Check.calls _ _ [[49, 50, 51, 52, 53, 54, 55, 56, 57]] _ _ c1 (by decide) check_digits).mono ?_
  rintro e w1 ⟨rfl, hb⟩
  have HB : Aside0 (Below w.heap.size w w1) := ⟨below_step (below_alloc (below_alloc (Below.refl _ _) _) _) hb⟩
  clear hb c1
  go_wp2_with fail
  refine (crc_Check.calls _ _ [] _ _ (Kd.C_nil _ _) (by decide) check_none).mono ?_
  rintro e w2 ⟨rfl, hb⟩
  have HB2 : Aside0 (Below w.heap.size w w2) := ⟨below_step HB.out hb⟩
  clear hb HB
  go_wp2
  go_ret
  exact ⟨rfl, HB2.out⟩
end Go.Proofs.Ytppmkbhknbalaaa.Ext
