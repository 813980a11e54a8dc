/- The same bytes behind another place, or another place behind the same bytes, have another check: CrcPlace holds for every input, with no condition. -/
import Derived.Test.YtppmkbhknbalaaaPZPlacex1
import Derived.Test.YtppmkbhknbalaaaMath2
namespace Go.Proofs.Ytppmkbhknbalaaa.Pure
open Go.RowKit Go.Proofs.Ytppmkbhknbalaaa.PZPlace Go.Proofs.YtppmkbhknbalaaaW.PrintWords Go.Proofs.YtppmkbhknbalaaaW.PrintLast Go.Proofs.Ytppmkbhknbalaaa.Ext

theorem CrcPlace : quitrentlaw02_CrcPlace.Pure := by
  intro l0 a1 a2 _ _ hw h1 h2
  have hb : ∀ c ∈ l0, IsByte c := fun c hc => wf_byte c (hw c hc)
  have w1 := wf_word a1 h1
  have w2 := wf_word a2 h2
  have e1 := place_ahead l0 a1 a2 hb w1 w2
  have e2 := place_behind l0 a1 a2 hb w1 w2
  unfold quitrentlaw02_CrcPlace.f
  by_cases hl : (l0.length : Int) > 4200
  · rw [if_pos hl]
  · rw [if_neg hl]
    simp only [quitrentlaw02_place.f, crc_Check.f, quitrentlaw02_goes.f, Option.bind_some]
    change (if (((4294967295 - (crcParts 4294967295 [placeOf a1, l0] : Int)) == (4294967295 - (crcParts 4294967295 [placeOf a2, l0] : Int))) == (a1 == a2)) = true then (if (((4294967295 - (crcParts 4294967295 [l0, placeOf a1] : Int)) == (4294967295 - (crcParts 4294967295 [l0, placeOf a2] : Int))) == (a1 == a2)) = true then some true else some false) else some false) = some true
    rw [e1, e2]
    simp
end Go.Proofs.Ytppmkbhknbalaaa.Pure
