/-
  No cell of these rows narrows 'for every input' (looked for: loops, veiled, ifaces, maps, wideKeys, modest, calm, conditions, laid).
  DERIVED. THE GIVEN ROWS OF THIS SEAT. 7 by the template 'for every input the law returns true; each argument reads behind the call as it read before'; 0 by the template 'total and deterministic' (their statements: YtdhiaagjbdbnhaaTotals.lean).
  GIVEN WITH THE SEED: the statements are not yours to turn. If you find one false, say at which input.
  Laid BY PROGRAM, IN A SANDBOX (cutbox-rows.mjs): the forced cells as the released guide's own fill.sh prints them over the translation 4ecb9903270a888d… (all of the seat's roots in one cut). By AI agents, Wed Nov 11 2026. No macro, syntax, notation, axiom, sorry.
-/
import Derived.Test.YtdhiaagjbdbnhaaChecked
import GoSem.Claim
import GoSem.ClaimJoined
import GoSem.ClaimMapViews
import Derived.JoinedTies
import Derived.KernelRfl
namespace Go.Proofs.Ytdhiaagjbdbnhaa
/- THE CELL 'sum', in the pinned program and in every row, IS THE sha256 OF THE DUMP (.gsa) THAT YtdhiaagjbdbnhaaProg.lean LOADS. Nothing in Lean hashes anything: it is a label: what it is worth is what the hold of that sum in a sandbox is worth. -/
noncomputable def Try.pinned : Pinned := { name := "ytdhiaagjbdbnhaa", sum := "4ecb9903270a888d1041d619a6a058125fe144fda3191529dc7094c7d2c86ecd", checked := Try.checked }
namespace Rows
def none {H : Type} : Left H := { results := [], args := [] }

/-- 'quitrentlaw10.MoneySums': WHATEVER THE INPUT: true; the input reads as it did. -/
def moneySumsSpec : ChangeSpec := { name := "moneySums", fn := fun _ => fun
  | [d1, d2, d3] => { results := [.lit (.bool true)], args := [d1, d2, d3] }
  | _ => none }
def moneySumsRow : OpenClaim := { program := "ytdhiaagjbdbnhaa", sum := "4ecb9903270a888d1041d619a6a058125fe144fda3191529dc7094c7d2c86ecd", func := "quitrent/quitrentlaw10.MoneySums", spec := "moneySums", inPlace := ["math/bits.Add64"], named := ["math/bits.divideError", "math/bits.overflowError"], apart := false }
def MoneySumsSaid : Prop := moneySumsRow.holds Try.pinned (OpenSpec.ofChange moneySumsSpec)

/-- ITS FALSE NEIGHBOUR: 'it returns false'. Refute it at one input. -/
def moneySumsWrong : ChangeSpec := { name := "moneySums", fn := fun _ => fun
  | [d1, d2, d3] => { results := [.lit (.bool false)], args := [d1, d2, d3] }
  | _ => none }
def MoneySumsWrongFalsely : Prop := moneySumsRow.holds Try.pinned (OpenSpec.ofChange moneySumsWrong)

/-- 'quitrentlaw10.MoneyParts': WHATEVER THE INPUT: true; the input reads as it did. -/
def moneyPartsSpec : ChangeSpec := { name := "moneyParts", fn := fun _ => fun
  | [d1, d2, d3] => { results := [.lit (.bool true)], args := [d1, d2, d3] }
  | _ => none }
def moneyPartsRow : OpenClaim := { program := "ytdhiaagjbdbnhaa", sum := "4ecb9903270a888d1041d619a6a058125fe144fda3191529dc7094c7d2c86ecd", func := "quitrent/quitrentlaw10.MoneyParts", spec := "moneyParts", inPlace := ["math/bits.Add64"], named := ["math/bits.divideError", "math/bits.overflowError"], apart := false }
def MoneyPartsSaid : Prop := moneyPartsRow.holds Try.pinned (OpenSpec.ofChange moneyPartsSpec)

/-- ITS FALSE NEIGHBOUR: 'it returns false'. Refute it at one input. -/
def moneyPartsWrong : ChangeSpec := { name := "moneyParts", fn := fun _ => fun
  | [d1, d2, d3] => { results := [.lit (.bool false)], args := [d1, d2, d3] }
  | _ => none }
def MoneyPartsWrongFalsely : Prop := moneyPartsRow.holds Try.pinned (OpenSpec.ofChange moneyPartsWrong)

/-- 'quitrentlaw10.MoneyBack': WHATEVER THE INPUT: true; the input reads as it did. -/
def moneyBackSpec : ChangeSpec := { name := "moneyBack", fn := fun _ => fun
  | [d1, d2, d3] => { results := [.lit (.bool true)], args := [d1, d2, d3] }
  | _ => none }
def moneyBackRow : OpenClaim := { program := "ytdhiaagjbdbnhaa", sum := "4ecb9903270a888d1041d619a6a058125fe144fda3191529dc7094c7d2c86ecd", func := "quitrent/quitrentlaw10.MoneyBack", spec := "moneyBack", inPlace := ["math/bits.Add64"], named := ["math/bits.divideError", "math/bits.overflowError"], apart := false }
def MoneyBackSaid : Prop := moneyBackRow.holds Try.pinned (OpenSpec.ofChange moneyBackSpec)

/-- ITS FALSE NEIGHBOUR: 'it returns false'. Refute it at one input. -/
def moneyBackWrong : ChangeSpec := { name := "moneyBack", fn := fun _ => fun
  | [d1, d2, d3] => { results := [.lit (.bool false)], args := [d1, d2, d3] }
  | _ => none }
def MoneyBackWrongFalsely : Prop := moneyBackRow.holds Try.pinned (OpenSpec.ofChange moneyBackWrong)

/-- 'quitrentlaw10.MoneyOrder': WHATEVER THE INPUT: true; the input reads as it did. -/
def moneyOrderSpec : ChangeSpec := { name := "moneyOrder", fn := fun _ => fun
  | [d1, d2] => { results := [.lit (.bool true)], args := [d1, d2] }
  | _ => none }
def moneyOrderRow : OpenClaim := { program := "ytdhiaagjbdbnhaa", sum := "4ecb9903270a888d1041d619a6a058125fe144fda3191529dc7094c7d2c86ecd", func := "quitrent/quitrentlaw10.MoneyOrder", spec := "moneyOrder", inPlace := ["math/bits.Add64"], named := ["math/bits.divideError", "math/bits.overflowError"], apart := false }
def MoneyOrderSaid : Prop := moneyOrderRow.holds Try.pinned (OpenSpec.ofChange moneyOrderSpec)

/-- ITS FALSE NEIGHBOUR: 'it returns false'. Refute it at one input. -/
def moneyOrderWrong : ChangeSpec := { name := "moneyOrder", fn := fun _ => fun
  | [d1, d2] => { results := [.lit (.bool false)], args := [d1, d2] }
  | _ => none }
def MoneyOrderWrongFalsely : Prop := moneyOrderRow.holds Try.pinned (OpenSpec.ofChange moneyOrderWrong)

/-- 'quitrentlaw10.MoneySigns': WHATEVER THE INPUT: true; the input reads as it did. -/
def moneySignsSpec : ChangeSpec := { name := "moneySigns", fn := fun _ => fun
  | [d1, d2] => { results := [.lit (.bool true)], args := [d1, d2] }
  | _ => none }
def moneySignsRow : OpenClaim := { program := "ytdhiaagjbdbnhaa", sum := "4ecb9903270a888d1041d619a6a058125fe144fda3191529dc7094c7d2c86ecd", func := "quitrent/quitrentlaw10.MoneySigns", spec := "moneySigns", inPlace := ["math/bits.Add64"], named := ["math/bits.divideError", "math/bits.overflowError"], apart := false }
def MoneySignsSaid : Prop := moneySignsRow.holds Try.pinned (OpenSpec.ofChange moneySignsSpec)

/-- ITS FALSE NEIGHBOUR: 'it returns false'. Refute it at one input. -/
def moneySignsWrong : ChangeSpec := { name := "moneySigns", fn := fun _ => fun
  | [d1, d2] => { results := [.lit (.bool false)], args := [d1, d2] }
  | _ => none }
def MoneySignsWrongFalsely : Prop := moneySignsRow.holds Try.pinned (OpenSpec.ofChange moneySignsWrong)

/-- 'quitrentlaw10.MoneyNeg': WHATEVER THE INPUT: true; the input reads as it did. -/
def moneyNegSpec : ChangeSpec := { name := "moneyNeg", fn := fun _ => fun
  | [d1, d2] => { results := [.lit (.bool true)], args := [d1, d2] }
  | _ => none }
def moneyNegRow : OpenClaim := { program := "ytdhiaagjbdbnhaa", sum := "4ecb9903270a888d1041d619a6a058125fe144fda3191529dc7094c7d2c86ecd", func := "quitrent/quitrentlaw10.MoneyNeg", spec := "moneyNeg", inPlace := ["math/bits.Add64"], named := ["math/bits.divideError", "math/bits.overflowError"], apart := false }
def MoneyNegSaid : Prop := moneyNegRow.holds Try.pinned (OpenSpec.ofChange moneyNegSpec)

/-- ITS FALSE NEIGHBOUR: 'it returns false'. Refute it at one input. -/
def moneyNegWrong : ChangeSpec := { name := "moneyNeg", fn := fun _ => fun
  | [d1, d2] => { results := [.lit (.bool false)], args := [d1, d2] }
  | _ => none }
def MoneyNegWrongFalsely : Prop := moneyNegRow.holds Try.pinned (OpenSpec.ofChange moneyNegWrong)

/-- 'quitrentlaw10.MoneyKnown': WHATEVER THE INPUT: true; the input reads as it did. -/
def moneyKnownSpec : ChangeSpec := { name := "moneyKnown", fn := fun _ => fun
  | [] => { results := [.lit (.bool true)], args := [] }
  | _ => none }
def moneyKnownRow : OpenClaim := { program := "ytdhiaagjbdbnhaa", sum := "4ecb9903270a888d1041d619a6a058125fe144fda3191529dc7094c7d2c86ecd", func := "quitrent/quitrentlaw10.MoneyKnown", spec := "moneyKnown", inPlace := ["math/bits.Add64"], named := ["math/bits.divideError", "math/bits.overflowError"], apart := false }
def MoneyKnownSaid : Prop := moneyKnownRow.holds Try.pinned (OpenSpec.ofChange moneyKnownSpec)

/-- ITS FALSE NEIGHBOUR: 'it returns false'. Refute it at one input. -/
def moneyKnownWrong : ChangeSpec := { name := "moneyKnown", fn := fun _ => fun
  | [] => { results := [.lit (.bool false)], args := [] }
  | _ => none }
def MoneyKnownWrongFalsely : Prop := moneyKnownRow.holds Try.pinned (OpenSpec.ofChange moneyKnownWrong)

/- THE SECOND FORM. 'bulk': how many values and letters a reading holds, each counted each time it is reached (what is shared counts as often as it is met; a slice's spare places count too). A statement '..UptoSaid' is the law's where the arguments, and the package variables that the reading takes, are together of bulk at most 1048576: NARROWER than '..Said'. Prove '..Said' where nothing that the law and all that it calls make is longer than what came in: it says more and counts as full. Else prove '..UptoSaid'. A law counts once. -/
mutual
def uptoBulk {H : Type} : DataW H → Nat
  | .lit (.string bytes) => bytes.length + 1
  | .lit _ => 1
  | .nil => 1
  | .ptr d => uptoBulk d + 1
  | .slice elems spare => uptoBulkAll elems + uptoBulkAll spare + 1
  | .agg parts => uptoBulkAll parts + 1
  | .iface _ d => uptoBulk d + 1
  | .map entries => uptoBulkEntries entries + 1
  | .held _ => 1
def uptoBulkAll {H : Type} : List (DataW H) → Nat
  | [] => 0
  | d :: r => uptoBulk d + uptoBulkAll r
def uptoBulkEntries {H : Type} : List (Lit × DataW H) → Nat
  | [] => 0
  | x :: r => uptoBulkEntry x + uptoBulkEntries r
def uptoBulkEntry {H : Type} : Lit × DataW H → Nat
  | (.string bytes, d) => bytes.length + uptoBulk d + 1
  | (_, d) => uptoBulk d + 1
 end
def uptoSmall : (H : Type) → List (DataW H) → Bool := fun _ ds => decide (uptoBulkAll ds ≤ 1048576)
def OpenSpec.upto (s : _root_.Go.ChangeSpec) : _root_.Go.OpenSpec := { _root_.Go.OpenSpec.ofChange s with cond := some uptoSmall }

/-- 'quitrentlaw10.MoneySums', WHERE WHAT IT READS IS OF BULK AT MOST 1048576: true; the input reads as it did. -/
def moneySumsUptoRow : OpenClaim := { program := "ytdhiaagjbdbnhaa", sum := "4ecb9903270a888d1041d619a6a058125fe144fda3191529dc7094c7d2c86ecd", func := "quitrent/quitrentlaw10.MoneySums", spec := "moneySums", inPlace := ["math/bits.Add64"], named := ["math/bits.divideError", "math/bits.overflowError"], apart := false, narrowed := true }
def MoneySumsUptoSaid : Prop := moneySumsUptoRow.holds Try.pinned (OpenSpec.upto moneySumsSpec)

/-- 'quitrentlaw10.MoneyParts', WHERE WHAT IT READS IS OF BULK AT MOST 1048576: true; the input reads as it did. -/
def moneyPartsUptoRow : OpenClaim := { program := "ytdhiaagjbdbnhaa", sum := "4ecb9903270a888d1041d619a6a058125fe144fda3191529dc7094c7d2c86ecd", func := "quitrent/quitrentlaw10.MoneyParts", spec := "moneyParts", inPlace := ["math/bits.Add64"], named := ["math/bits.divideError", "math/bits.overflowError"], apart := false, narrowed := true }
def MoneyPartsUptoSaid : Prop := moneyPartsUptoRow.holds Try.pinned (OpenSpec.upto moneyPartsSpec)

/-- 'quitrentlaw10.MoneyBack', WHERE WHAT IT READS IS OF BULK AT MOST 1048576: true; the input reads as it did. -/
def moneyBackUptoRow : OpenClaim := { program := "ytdhiaagjbdbnhaa", sum := "4ecb9903270a888d1041d619a6a058125fe144fda3191529dc7094c7d2c86ecd", func := "quitrent/quitrentlaw10.MoneyBack", spec := "moneyBack", inPlace := ["math/bits.Add64"], named := ["math/bits.divideError", "math/bits.overflowError"], apart := false, narrowed := true }
def MoneyBackUptoSaid : Prop := moneyBackUptoRow.holds Try.pinned (OpenSpec.upto moneyBackSpec)

/-- 'quitrentlaw10.MoneyOrder', WHERE WHAT IT READS IS OF BULK AT MOST 1048576: true; the input reads as it did. -/
def moneyOrderUptoRow : OpenClaim := { program := "ytdhiaagjbdbnhaa", sum := "4ecb9903270a888d1041d619a6a058125fe144fda3191529dc7094c7d2c86ecd", func := "quitrent/quitrentlaw10.MoneyOrder", spec := "moneyOrder", inPlace := ["math/bits.Add64"], named := ["math/bits.divideError", "math/bits.overflowError"], apart := false, narrowed := true }
def MoneyOrderUptoSaid : Prop := moneyOrderUptoRow.holds Try.pinned (OpenSpec.upto moneyOrderSpec)

/-- 'quitrentlaw10.MoneySigns', WHERE WHAT IT READS IS OF BULK AT MOST 1048576: true; the input reads as it did. -/
def moneySignsUptoRow : OpenClaim := { program := "ytdhiaagjbdbnhaa", sum := "4ecb9903270a888d1041d619a6a058125fe144fda3191529dc7094c7d2c86ecd", func := "quitrent/quitrentlaw10.MoneySigns", spec := "moneySigns", inPlace := ["math/bits.Add64"], named := ["math/bits.divideError", "math/bits.overflowError"], apart := false, narrowed := true }
def MoneySignsUptoSaid : Prop := moneySignsUptoRow.holds Try.pinned (OpenSpec.upto moneySignsSpec)

/-- 'quitrentlaw10.MoneyNeg', WHERE WHAT IT READS IS OF BULK AT MOST 1048576: true; the input reads as it did. -/
def moneyNegUptoRow : OpenClaim := { program := "ytdhiaagjbdbnhaa", sum := "4ecb9903270a888d1041d619a6a058125fe144fda3191529dc7094c7d2c86ecd", func := "quitrent/quitrentlaw10.MoneyNeg", spec := "moneyNeg", inPlace := ["math/bits.Add64"], named := ["math/bits.divideError", "math/bits.overflowError"], apart := false, narrowed := true }
def MoneyNegUptoSaid : Prop := moneyNegUptoRow.holds Try.pinned (OpenSpec.upto moneyNegSpec)

/-- 'quitrentlaw10.MoneyKnown', WHERE WHAT IT READS IS OF BULK AT MOST 1048576: true; the input reads as it did. -/
def moneyKnownUptoRow : OpenClaim := { program := "ytdhiaagjbdbnhaa", sum := "4ecb9903270a888d1041d619a6a058125fe144fda3191529dc7094c7d2c86ecd", func := "quitrent/quitrentlaw10.MoneyKnown", spec := "moneyKnown", inPlace := ["math/bits.Add64"], named := ["math/bits.divideError", "math/bits.overflowError"], apart := false, narrowed := true }
def MoneyKnownUptoSaid : Prop := moneyKnownUptoRow.holds Try.pinned (OpenSpec.upto moneyKnownSpec)

end Rows
end Go.Proofs.Ytdhiaagjbdbnhaa
