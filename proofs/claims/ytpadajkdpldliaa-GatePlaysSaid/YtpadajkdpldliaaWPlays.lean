/- GatePlays: what comes in is opened. -/
import Derived.Test.YtpadajkdpldliaaPlaysW
namespace Go.Proofs.Ytpadajkdpldliaa.Ext
open Go.RowKit Go.Proofs.YtpadajkdpldliaaW.PrintWords Go.Proofs.YtpadajkdpldliaaW.PrintLast Go.Proofs.YtpadajkdpldliaaW.PrintMore Go.Proofs.YtpadajkdpldliaaW.Hand
theorem GatePlays.walk {H : Type} {enc : TypeId × Value → H} {d : DataW H} {p : List MemPlace} (me : Int) (A : Option Addr) (n c : Nat) (w : World)
    (h : DataW.Trod enc Try.prog w 0 (fun _ => true) true 22 (.slice A n c) d p) :
    Calls Try.prog 3 #[.int .i64 me, .slice A n c] w fun e w' => e = .returned (.bool true) ∧ Below w.heap.size w w' := by
  obtain ⟨L, hL, hA⟩ := acts_open h
  exact plays_go me A c n L hL w hA
end Go.Proofs.Ytpadajkdpldliaa.Ext
