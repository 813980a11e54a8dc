/- Contracts of quitrentref10's Sum and Part, proved by walking their code. -/
import Derived.Test.YthgfdgkmmlbohaaRef2
namespace Go.Proofs.Ythgfdgkmmlbohaa.Ext
open Go.RowKit Go.Proofs.YthgfdgkmmlbohaaW.PrintWords Go.Proofs.YthgfdgkmmlbohaaW.PrintLast Go.Proofs.YthgfdgkmmlbohaaW.PrintMore Go.Proofs.YthgfdgkmmlbohaaW.Hand
set_option linter.unusedVariables false
/-- The cells of a number. -/
def bigC (s : Int) : Obj := .cells #[.int .u64 (s % 4294967296), .int .u64 (s / 4294967296 % 4294967296), .int .u64 (s / 4294967296 / 4294967296 % 4294967296), .int .u64 (s / 4294967296 / 4294967296 / 4294967296 % 4294967296)] 44
theorem big_named (s : Int) : ∃ d0 d1 d2 d3 : Int, bigV s = .agg #[.int .u64 d0, .int .u64 d1, .int .u64 d2, .int .u64 d3] ∧ bigC s = .cells #[.int .u64 d0, .int .u64 d1, .int .u64 d2, .int .u64 d3] 44 := ⟨_, _, _, _, rfl, rfl⟩
theorem small_mod (s : Int) (h1 : -170141183460469231731687303715884105728 ≤ s) (h2 : s < 170141183460469231731687303715884105728) :
    small s = (if (s - wrap64 s) % 340282366920938463463374607431768211456 = 0 then wrap64 s else 0, if (s - wrap64 s) % 340282366920938463463374607431768211456 = 0 then 0 else 30) := by
  unfold small
  by_cases hi : I64 s
  · have e := wrap64_same s hi
    rw [e, if_pos hi, if_pos (by omega), if_pos (by omega)]
  · have h3 : I64 (wrap64 s) := by unfold I64 wrap64; omega
    have h4 : wrap64 s ≠ s := fun e => hi (e ▸ h3)
    have h5 : ¬ (s - wrap64 s) % 340282366920938463463374607431768211456 = 0 := by
      unfold I64 at h3
      generalize wrap64 s = x at *
      omega
    rw [if_neg hi, if_neg h5, if_neg h5]
def quitrentref10_Sum.f (l : List Int) : Option (Int × Int) := money_Sum.f l
end Go.Proofs.Ythgfdgkmmlbohaa.Ext
