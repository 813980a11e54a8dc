/-
  No cell of these rows narrows 'for every input' (looked for: loops, veiled, ifaces, maps, wideKeys, modest, calm, conditions, laid).
  DERIVED. THE GIVEN ROWS OF THIS SEAT. 5 by the template 'for every input the law returns true; each argument reads behind the call as it read before'; 0 by the template 'total and deterministic' (their statements: YtppmkbhknbalaaaTotals.lean).
  GIVEN WITH THE SEED: the statements are not yours to turn. If you find one false, say at which input.
  Laid BY PROGRAM, IN A SANDBOX (cutbox-rows.mjs): the forced cells as the released guide's own fill.sh prints them over the translation 4cc137924bf3efc4… (all of the seat's roots in one cut). By AI agents, Wed Nov 11 2026. No macro, syntax, notation, axiom, sorry.
-/
import Derived.Test.YtppmkbhknbalaaaChecked
import GoSem.Claim
import GoSem.ClaimJoined
import GoSem.ClaimMapViews
import Derived.JoinedTies
import Derived.KernelRfl
namespace Go.Proofs.Ytppmkbhknbalaaa
/- THE CELL 'sum', in the pinned program and in every row, IS THE sha256 OF THE DUMP (.gsa) THAT YtppmkbhknbalaaaProg.lean LOADS. Nothing in Lean hashes anything: it is a label: what it is worth is what the hold of that sum in a sandbox is worth. -/
noncomputable def Try.pinned : Pinned := { name := "ytppmkbhknbalaaa", sum := "4cc137924bf3efc4093ef88c5818f91b939fb1066bf35b970d90829d7adc5de2", checked := Try.checked }
namespace Rows
def none {H : Type} : Left H := { results := [], args := [] }

/-- 'quitrentlaw02.CrcChecks': WHATEVER THE INPUT: true; the input reads as it did. -/
def crcChecksSpec : ChangeSpec := { name := "crcChecks", fn := fun _ => fun
  | [d] => { results := [.lit (.bool true)], args := [d] }
  | _ => none }
def crcChecksRow : OpenClaim := { program := "ytppmkbhknbalaaa", sum := "4cc137924bf3efc4093ef88c5818f91b939fb1066bf35b970d90829d7adc5de2", func := "quitrent/quitrentlaw02.CrcChecks", spec := "crcChecks", apart := false }
def CrcChecksSaid : Prop := crcChecksRow.holds Try.pinned (OpenSpec.ofChange crcChecksSpec)

/-- ITS FALSE NEIGHBOUR: 'it returns false'. Refute it at one input. -/
def crcChecksWrong : ChangeSpec := { name := "crcChecks", fn := fun _ => fun
  | [d] => { results := [.lit (.bool false)], args := [d] }
  | _ => none }
def CrcChecksWrongFalsely : Prop := crcChecksRow.holds Try.pinned (OpenSpec.ofChange crcChecksWrong)

/-- 'quitrentlaw02.CrcPlace': WHATEVER THE INPUT: true; the input reads as it did. -/
def crcPlaceSpec : ChangeSpec := { name := "crcPlace", fn := fun _ => fun
  | [d1, d2, d3] => { results := [.lit (.bool true)], args := [d1, d2, d3] }
  | _ => none }
def crcPlaceRow : OpenClaim := { program := "ytppmkbhknbalaaa", sum := "4cc137924bf3efc4093ef88c5818f91b939fb1066bf35b970d90829d7adc5de2", func := "quitrent/quitrentlaw02.CrcPlace", spec := "crcPlace", apart := false }
def CrcPlaceSaid : Prop := crcPlaceRow.holds Try.pinned (OpenSpec.ofChange crcPlaceSpec)

/-- ITS FALSE NEIGHBOUR: 'it returns false'. Refute it at one input. -/
def crcPlaceWrong : ChangeSpec := { name := "crcPlace", fn := fun _ => fun
  | [d1, d2, d3] => { results := [.lit (.bool false)], args := [d1, d2, d3] }
  | _ => none }
def CrcPlaceWrongFalsely : Prop := crcPlaceRow.holds Try.pinned (OpenSpec.ofChange crcPlaceWrong)

/-- 'quitrentlaw02.CrcWord': WHATEVER THE INPUT: true; the input reads as it did. -/
def crcWordSpec : ChangeSpec := { name := "crcWord", fn := fun _ => fun
  | [d1, d2, d3] => { results := [.lit (.bool true)], args := [d1, d2, d3] }
  | _ => none }
def crcWordRow : OpenClaim := { program := "ytppmkbhknbalaaa", sum := "4cc137924bf3efc4093ef88c5818f91b939fb1066bf35b970d90829d7adc5de2", func := "quitrent/quitrentlaw02.CrcWord", spec := "crcWord", apart := false }
def CrcWordSaid : Prop := crcWordRow.holds Try.pinned (OpenSpec.ofChange crcWordSpec)

/-- ITS FALSE NEIGHBOUR: 'it returns false'. Refute it at one input. -/
def crcWordWrong : ChangeSpec := { name := "crcWord", fn := fun _ => fun
  | [d1, d2, d3] => { results := [.lit (.bool false)], args := [d1, d2, d3] }
  | _ => none }
def CrcWordWrongFalsely : Prop := crcWordRow.holds Try.pinned (OpenSpec.ofChange crcWordWrong)

/-- 'quitrentlaw02.CrcOne': WHATEVER THE INPUT: true; the input reads as it did. -/
def crcOneSpec : ChangeSpec := { name := "crcOne", fn := fun _ => fun
  | [d1, d2, d3] => { results := [.lit (.bool true)], args := [d1, d2, d3] }
  | _ => none }
def crcOneRow : OpenClaim := { program := "ytppmkbhknbalaaa", sum := "4cc137924bf3efc4093ef88c5818f91b939fb1066bf35b970d90829d7adc5de2", func := "quitrent/quitrentlaw02.CrcOne", spec := "crcOne", apart := false }
def CrcOneSaid : Prop := crcOneRow.holds Try.pinned (OpenSpec.ofChange crcOneSpec)

/-- ITS FALSE NEIGHBOUR: 'it returns false'. Refute it at one input. -/
def crcOneWrong : ChangeSpec := { name := "crcOne", fn := fun _ => fun
  | [d1, d2, d3] => { results := [.lit (.bool false)], args := [d1, d2, d3] }
  | _ => none }
def CrcOneWrongFalsely : Prop := crcOneRow.holds Try.pinned (OpenSpec.ofChange crcOneWrong)

/-- 'quitrentlaw02.CrcKnown': WHATEVER THE INPUT: true; the input reads as it did. -/
def crcKnownSpec : ChangeSpec := { name := "crcKnown", fn := fun _ => fun
  | [] => { results := [.lit (.bool true)], args := [] }
  | _ => none }
def crcKnownRow : OpenClaim := { program := "ytppmkbhknbalaaa", sum := "4cc137924bf3efc4093ef88c5818f91b939fb1066bf35b970d90829d7adc5de2", func := "quitrent/quitrentlaw02.CrcKnown", spec := "crcKnown", apart := false }
def CrcKnownSaid : Prop := crcKnownRow.holds Try.pinned (OpenSpec.ofChange crcKnownSpec)

/-- ITS FALSE NEIGHBOUR: 'it returns false'. Refute it at one input. -/
def crcKnownWrong : ChangeSpec := { name := "crcKnown", fn := fun _ => fun
  | [] => { results := [.lit (.bool false)], args := [] }
  | _ => none }
def CrcKnownWrongFalsely : Prop := crcKnownRow.holds Try.pinned (OpenSpec.ofChange crcKnownWrong)

/- THE SECOND FORM. 'bulk': how many values and letters a reading holds, each counted each time it is reached (what is shared counts as often as it is met; a slice's spare places count too). A statement '..UptoSaid' is the law's where the arguments, and the package variables that the reading takes, are together of bulk at most 1048576: NARROWER than '..Said'. Prove '..Said' where nothing that the law and all that it calls make is longer than what came in: it says more and counts as full. Else prove '..UptoSaid'. A law counts once. -/
mutual
def uptoBulk {H : Type} : DataW H → Nat
  | .lit (.string bytes) => bytes.length + 1
  | .lit _ => 1
  | .nil => 1
  | .ptr d => uptoBulk d + 1
  | .slice elems spare => uptoBulkAll elems + uptoBulkAll spare + 1
  | .agg parts => uptoBulkAll parts + 1
  | .iface _ d => uptoBulk d + 1
  | .map entries => uptoBulkEntries entries + 1
  | .held _ => 1
def uptoBulkAll {H : Type} : List (DataW H) → Nat
  | [] => 0
  | d :: r => uptoBulk d + uptoBulkAll r
def uptoBulkEntries {H : Type} : List (Lit × DataW H) → Nat
  | [] => 0
  | x :: r => uptoBulkEntry x + uptoBulkEntries r
def uptoBulkEntry {H : Type} : Lit × DataW H → Nat
  | (.string bytes, d) => bytes.length + uptoBulk d + 1
  | (_, d) => uptoBulk d + 1
 end
def uptoSmall : (H : Type) → List (DataW H) → Bool := fun _ ds => decide (uptoBulkAll ds ≤ 1048576)
def OpenSpec.upto (s : _root_.Go.ChangeSpec) : _root_.Go.OpenSpec := { _root_.Go.OpenSpec.ofChange s with cond := some uptoSmall }

/-- 'quitrentlaw02.CrcChecks', WHERE WHAT IT READS IS OF BULK AT MOST 1048576: true; the input reads as it did. -/
def crcChecksUptoRow : OpenClaim := { program := "ytppmkbhknbalaaa", sum := "4cc137924bf3efc4093ef88c5818f91b939fb1066bf35b970d90829d7adc5de2", func := "quitrent/quitrentlaw02.CrcChecks", spec := "crcChecks", apart := false, narrowed := true }
def CrcChecksUptoSaid : Prop := crcChecksUptoRow.holds Try.pinned (OpenSpec.upto crcChecksSpec)

/-- 'quitrentlaw02.CrcPlace', WHERE WHAT IT READS IS OF BULK AT MOST 1048576: true; the input reads as it did. -/
def crcPlaceUptoRow : OpenClaim := { program := "ytppmkbhknbalaaa", sum := "4cc137924bf3efc4093ef88c5818f91b939fb1066bf35b970d90829d7adc5de2", func := "quitrent/quitrentlaw02.CrcPlace", spec := "crcPlace", apart := false, narrowed := true }
def CrcPlaceUptoSaid : Prop := crcPlaceUptoRow.holds Try.pinned (OpenSpec.upto crcPlaceSpec)

/-- 'quitrentlaw02.CrcWord', WHERE WHAT IT READS IS OF BULK AT MOST 1048576: true; the input reads as it did. -/
def crcWordUptoRow : OpenClaim := { program := "ytppmkbhknbalaaa", sum := "4cc137924bf3efc4093ef88c5818f91b939fb1066bf35b970d90829d7adc5de2", func := "quitrent/quitrentlaw02.CrcWord", spec := "crcWord", apart := false, narrowed := true }
def CrcWordUptoSaid : Prop := crcWordUptoRow.holds Try.pinned (OpenSpec.upto crcWordSpec)

/-- 'quitrentlaw02.CrcOne', WHERE WHAT IT READS IS OF BULK AT MOST 1048576: true; the input reads as it did. -/
def crcOneUptoRow : OpenClaim := { program := "ytppmkbhknbalaaa", sum := "4cc137924bf3efc4093ef88c5818f91b939fb1066bf35b970d90829d7adc5de2", func := "quitrent/quitrentlaw02.CrcOne", spec := "crcOne", apart := false, narrowed := true }
def CrcOneUptoSaid : Prop := crcOneUptoRow.holds Try.pinned (OpenSpec.upto crcOneSpec)

/-- 'quitrentlaw02.CrcKnown', WHERE WHAT IT READS IS OF BULK AT MOST 1048576: true; the input reads as it did. -/
def crcKnownUptoRow : OpenClaim := { program := "ytppmkbhknbalaaa", sum := "4cc137924bf3efc4093ef88c5818f91b939fb1066bf35b970d90829d7adc5de2", func := "quitrent/quitrentlaw02.CrcKnown", spec := "crcKnown", apart := false, narrowed := true }
def CrcKnownUptoSaid : Prop := crcKnownUptoRow.holds Try.pinned (OpenSpec.upto crcKnownSpec)

end Rows
end Go.Proofs.Ytppmkbhknbalaaa
