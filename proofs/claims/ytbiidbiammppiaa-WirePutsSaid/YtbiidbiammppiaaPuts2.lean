/- WirePuts, opened. -/
import Derived.Test.YtbiidbiammppiaaPuts
import Derived.Test.YtbiidbiammppiaaSpoilt
namespace Go.Proofs.Ytbiidbiammppiaa.Ext
open Go.RowKit Go.Proofs.YtbiidbiammppiaaW.PrintWords Go.Proofs.YtbiidbiammppiaaW.PrintLast Go.Proofs.YtbiidbiammppiaaW.PrintMore Go.Proofs.YtbiidbiammppiaaW.Hand
set_option linter.unusedVariables false
theorem WirePuts.walk {H : Type} {enc : TypeId × Value → H} (a0 : Option Addr) (len0 cap0 : Nat) (a1 : Option Addr) (len1 cap1 : Nat) (n cc : Int) (w : World) {d0 d1 : DataW H} {p0 p1 : List MemPlace}
    (k0 : DataW.Trod enc Try.prog w 0 (fun _ => true) true 22 (.slice a0 len0 cap0) d0 p0) (k1 : DataW.Trod enc Try.prog w 0 (fun _ => true) true 22 (.slice a1 len1 cap1) d1 p1) (w2 : (Lit.int .u64 n).wf = true) (w3 : (Lit.int .u8 cc).wf = true) :
    Calls Try.prog 5 #[.slice a0 len0 cap0, .slice a1 len1 cap1, .int .u64 n, .int .u8 cc] w fun e w' => e = .returned (.bool true) ∧ Below w.heap.size w w' := by
  obtain ⟨l, rfl, hr, hb⟩ := bytes_open k0
  obtain ⟨l2, rfl, hr2, hb2⟩ := bytes_open k1
  have h2 : 0 ≤ n ∧ n < 18446744073709551616 := wf_u64 _ w2
  have h3 : 0 ≤ cc ∧ cc < 256 := wf_byte _ w3
  exact WirePuts.go a0 cap0 l a1 cap1 l2 n cc w hr hr2 h2.1 h2.2 h3.1 h3.2
end Go.Proofs.Ytbiidbiammppiaa.Ext
