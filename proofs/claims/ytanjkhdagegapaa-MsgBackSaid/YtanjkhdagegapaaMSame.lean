/- msg.same. -/
import Derived.Test.YtanjkhdagegapaaG4
import Derived.Test.YtanjkhdagegapaaCutA
namespace Go.Proofs.Ytanjkhdagegapaa.Ext
open Go.RowKit Go.MapKept Go.Shelf Go.Proofs.YtanjkhdagegapaaW.PrintWords Go.Proofs.YtanjkhdagegapaaW.PrintLast Go.Proofs.YtanjkhdagegapaaW.PrintMore Go.Proofs.YtanjkhdagegapaaW.Hand Go.Proofs.Ytanjkhdagegapaa.PZ
set_option linter.unusedVariables false
set_option linter.unusedSimpArgs false
def plainB (x : RQ) : Bool := x.f8.f0 == 0 && (x.f8.f1 == 0 && (x.f8.f2 == 0 && (x.f8.f3 == 0 && (x.f8.f4 == 0 && (x.f8.f5 == 0 && ((x.f8.f6.length : Int) == 0))))))
theorem plain_calls (x : RQ) (A : Option Addr) (c : Nat) (w : World) (hC : Kd.C k39 w A x.f8.f6.length x.f8.f6) (hc : x.f8.f6.length ≤ c) :
    Calls Try.prog 50 #[.agg #[.int .u32 x.f8.f0, .int .i64 x.f8.f1, .int .i64 x.f8.f2, .int .i64 x.f8.f3, .int .i64 x.f8.f4, .int .i64 x.f8.f5, .slice A x.f8.f6.length c]] w fun e w' => e = .returned (.bool (plainB x)) ∧ Below w.heap.size w w' := by
  refine (p_msg_plainPlan.calls x.f8.f0 x.f8.f1 x.f8.f2 x.f8.f3 x.f8.f4 x.f8.f5 A c x.f8.f6 (plainB x) w hC hc ?_).mono fun e w' h => ?_
  · unfold p_msg_plainPlan.f plainB
    by_cases h0 : x.f8.f0 = 0 <;> by_cases h1 : x.f8.f1 = 0 <;> by_cases h2 : x.f8.f2 = 0 <;> by_cases h3 : x.f8.f3 = 0 <;> by_cases h4 : x.f8.f4 = 0 <;> by_cases h5 : x.f8.f5 = 0 <;> simp [h0, h1, h2, h3, h4, h5]
  · exact h
theorem same_absurd {b : Bool} (h : some undef = some (Value.bool b)) : False := by simp [undef] at h
/-- The rows of a plan's bytes. -/
def putTail (x y : RQ) : Bool := (plainB x && plainB y) || (decide (0 < ((rqPut x).1.length : Int)) && ((strOfNums (rqPut x).1).toList == (strOfNums (rqPut y).1).toList))
def sameB (x y : RQ) : Bool := (x.f0 == y.f0) && ((x.f1 == y.f1) && ((x.f2.toList == y.f2.toList) && ((x.f3 == y.f3) && ((x.f4 == y.f4) && ((x.f5 == y.f5) && ((x.f6 == y.f6) && ((x.f7.toList == y.f7.toList) && putTail x y)))))))
end Go.Proofs.Ytanjkhdagegapaa.Ext
