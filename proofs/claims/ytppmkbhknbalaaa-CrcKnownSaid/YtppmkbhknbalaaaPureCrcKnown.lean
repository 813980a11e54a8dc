/- The known checks of crc.Check: the closed statement CrcKnown holds, with no condition. -/
import Derived.Test.YtppmkbhknbalaaaPZKnownx1
namespace Go.Proofs.Ytppmkbhknbalaaa.Pure
open Go.RowKit Go.Proofs.Ytppmkbhknbalaaa.PZKnown Go.Proofs.YtppmkbhknbalaaaW.PrintWords Go.Proofs.YtppmkbhknbalaaaW.PrintLast

/-- YOURS: ∃ k, quitrentlaw02_CrcKnown.f k  = some true
What it reaches (each with k first where it has rounds; `.mono`: more rounds tell the same; `.l0`, ..: its loops, with `.mono_l`): crc_Check.f, quitrentlaw02_goes.f, quitrentlaw02_CrcKnown.f -/
theorem CrcKnown : quitrentlaw02_CrcKnown.Pure := by
  exact ⟨100, by kernel_rfl⟩

end Go.Proofs.Ytppmkbhknbalaaa.Pure
