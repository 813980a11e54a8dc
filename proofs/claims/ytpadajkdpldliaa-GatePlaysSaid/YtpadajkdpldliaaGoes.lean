/- quitrentlaw01.goes, walked. -/
import Derived.Test.YtpadajkdpldliaaRead
namespace Go.Proofs.Ytpadajkdpldliaa.Ext
open Go.RowKit Go.Proofs.YtpadajkdpldliaaW.PrintWords Go.Proofs.YtpadajkdpldliaaW.PrintLast Go.Proofs.YtpadajkdpldliaaW.PrintMore Go.Proofs.YtpadajkdpldliaaW.Hand
set_option linter.unusedVariables false
/-- A string of a row of bytes of the call's own. -/
theorem str_own {W : World} {base : Nat} {ok : Nat → Prop} {v : Value} {xs : List Int} (h : Kd.R (Kd.int .u8) 5 W base ok v xs) : (convert 39 9 v).run Try.prog W = .ok (.string (strOfNums xs)) W :=
  own_string (P := Try.prog) Try.underlying39 Try.underlying5 Try.underlying9 (Kd.own_of_R h)
end Go.Proofs.Ytpadajkdpldliaa.Ext
