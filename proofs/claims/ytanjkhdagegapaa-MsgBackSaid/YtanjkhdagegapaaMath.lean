/- Plain facts on 64-bit numbers. -/
import Derived.Test.YtanjkhdagegapaaH
namespace Go.Proofs.Ytanjkhdagegapaa.Ext
open Go.RowKit Go.Proofs.YtanjkhdagegapaaW.PrintWords
/-- Does a number fit? -/
def I64 (a : Int) : Prop := -9223372036854775808 ≤ a ∧ a < 9223372036854775808
instance (a : Int) : Decidable (I64 a) := by unfold I64; infer_instance
theorem wf_i64 (a : Int) (h : (Lit.int .i64 a).wf = true) : I64 a := by
  have h1 : IntKind.i64.min = -9223372036854775808 := rfl
  have h2 : IntKind.i64.max = 9223372036854775807 := rfl
  simp only [Lit.wf, Bool.and_eq_true, decide_eq_true_eq, h1, h2] at h
  unfold I64; omega
end Go.Proofs.Ytanjkhdagegapaa.Ext
