/- quitrentref01's Number, in the print's form. -/
import Derived.Test.YtdfmganmchmbjaaEExt
namespace Go.Proofs.Ytdfmganmchmbjaa.Ext
open Go.RowKit Go.Proofs.YtdfmganmchmbjaaW.PrintWords Go.Proofs.YtdfmganmchmbjaaW.PrintLast Go.Proofs.YtdfmganmchmbjaaW.PrintMore Go.Proofs.YtdfmganmchmbjaaW.Hand Go.Proofs.Ytdfmganmchmbjaa.PZ
def quitrentref01_Number.f (v n : Int) : Option (List Int) := if 0 ≤ v ∧ 0 ≤ n ∧ n ≤ 8 then some (beN n.toNat v) else none
theorem quitrentref01_Number.calls (v n : Int) (r : List Int) (w : World) (h : quitrentref01_Number.f v n = some r) :
    Calls Try.prog 56 #[.int .u64 v, .int .i64 n] w fun e w' => ∃ v0 : Value, e = .returned v0 ∧ Kd.R (Kd.int .u8) 5 w' w.heap.size (fun _ => True) v0 r ∧ Below w.heap.size w w' := by
  unfold quitrentref01_Number.f at h
  by_cases h1 : 0 ≤ v ∧ 0 ≤ n ∧ n ≤ 8
  · rw [if_pos h1] at h
    obtain rfl := Option.some.inj h
    exact Number_calls v n.toNat n (by omega) w (by omega) h1.1
  · rw [if_neg h1] at h; cases h
end Go.Proofs.Ytdfmganmchmbjaa.Ext
