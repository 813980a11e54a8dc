/-
  No cell of these rows narrows 'for every input' (looked for: loops, veiled, ifaces, maps, wideKeys, modest, calm, conditions, laid).
  DERIVED. THE GIVEN ROWS OF THIS SEAT. 5 by the template 'for every input the law returns true; each argument reads behind the call as it read before'; 0 by the template 'total and deterministic' (their statements: YthgfdgkmmlbohaaTotals.lean).
  GIVEN WITH THE SEED: the statements are not yours to turn. If you find one false, say at which input.
  Laid BY PROGRAM, IN A SANDBOX (cutbox-rows.mjs): the forced cells as the released guide's own fill.sh prints them over the translation d0614e3f6358b385… (all of the seat's roots in one cut). By AI agents, Wed Nov 11 2026. No macro, syntax, notation, axiom, sorry.
-/
import Derived.Test.YthgfdgkmmlbohaaChecked
import GoSem.Claim
import GoSem.ClaimJoined
import GoSem.ClaimMapViews
import Derived.JoinedTies
import Derived.KernelRfl
namespace Go.Proofs.Ythgfdgkmmlbohaa
/- THE CELL 'sum', in the pinned program and in every row, IS THE sha256 OF THE DUMP (.gsa) THAT YthgfdgkmmlbohaaProg.lean LOADS. Nothing in Lean hashes anything: it is a label: what it is worth is what the hold of that sum in a sandbox is worth. -/
noncomputable def Try.pinned : Pinned := { name := "ythgfdgkmmlbohaa", sum := "d0614e3f6358b385bdec45d95ed703abde8e42eb46fcc69e4945779d48484ad9", checked := Try.checked }
namespace Rows
def none {H : Type} : Left H := { results := [], args := [] }

/-- 'quitrentlaw11.TiersAll': WHATEVER THE INPUT: true; the input reads as it did. -/
def tiersAllSpec : ChangeSpec := { name := "tiersAll", fn := fun _ => fun
  | [d1, d2] => { results := [.lit (.bool true)], args := [d1, d2] }
  | _ => none }
def tiersAllRow : OpenClaim := { program := "ythgfdgkmmlbohaa", sum := "d0614e3f6358b385bdec45d95ed703abde8e42eb46fcc69e4945779d48484ad9", func := "quitrent/quitrentlaw11.TiersAll", spec := "tiersAll", inPlace := ["math/bits.Add64"], unfollowed := true, recurses := true, apart := false }
def TiersAllSaid : Prop := tiersAllRow.holds Try.pinned (OpenSpec.ofChange tiersAllSpec)

/-- ITS FALSE NEIGHBOUR: 'it returns false'. Refute it at one input. -/
def tiersAllWrong : ChangeSpec := { name := "tiersAll", fn := fun _ => fun
  | [d1, d2] => { results := [.lit (.bool false)], args := [d1, d2] }
  | _ => none }
def TiersAllWrongFalsely : Prop := tiersAllRow.holds Try.pinned (OpenSpec.ofChange tiersAllWrong)

/-- 'quitrentlaw11.TiersNext': WHATEVER THE INPUT: true; the input reads as it did. -/
def tiersNextSpec : ChangeSpec := { name := "tiersNext", fn := fun _ => fun
  | [d1, d2] => { results := [.lit (.bool true)], args := [d1, d2] }
  | _ => none }
def tiersNextRow : OpenClaim := { program := "ythgfdgkmmlbohaa", sum := "d0614e3f6358b385bdec45d95ed703abde8e42eb46fcc69e4945779d48484ad9", func := "quitrent/quitrentlaw11.TiersNext", spec := "tiersNext", inPlace := ["math/bits.Add64"], unfollowed := true, recurses := true, apart := false }
def TiersNextSaid : Prop := tiersNextRow.holds Try.pinned (OpenSpec.ofChange tiersNextSpec)

/-- ITS FALSE NEIGHBOUR: 'it returns false'. Refute it at one input. -/
def tiersNextWrong : ChangeSpec := { name := "tiersNext", fn := fun _ => fun
  | [d1, d2] => { results := [.lit (.bool false)], args := [d1, d2] }
  | _ => none }
def TiersNextWrongFalsely : Prop := tiersNextRow.holds Try.pinned (OpenSpec.ofChange tiersNextWrong)

/-- 'quitrentlaw11.TiersSpans': WHATEVER THE INPUT: true; the input reads as it did. -/
def tiersSpansSpec : ChangeSpec := { name := "tiersSpans", fn := fun _ => fun
  | [d1, d2] => { results := [.lit (.bool true)], args := [d1, d2] }
  | _ => none }
def tiersSpansRow : OpenClaim := { program := "ythgfdgkmmlbohaa", sum := "d0614e3f6358b385bdec45d95ed703abde8e42eb46fcc69e4945779d48484ad9", func := "quitrent/quitrentlaw11.TiersSpans", spec := "tiersSpans", inPlace := ["math/bits.Add64"], unfollowed := true, recurses := true, apart := false }
def TiersSpansSaid : Prop := tiersSpansRow.holds Try.pinned (OpenSpec.ofChange tiersSpansSpec)

/-- ITS FALSE NEIGHBOUR: 'it returns false'. Refute it at one input. -/
def tiersSpansWrong : ChangeSpec := { name := "tiersSpans", fn := fun _ => fun
  | [d1, d2] => { results := [.lit (.bool false)], args := [d1, d2] }
  | _ => none }
def TiersSpansWrongFalsely : Prop := tiersSpansRow.holds Try.pinned (OpenSpec.ofChange tiersSpansWrong)

/-- 'quitrentlaw11.TiersOne': WHATEVER THE INPUT: true; the input reads as it did. -/
def tiersOneSpec : ChangeSpec := { name := "tiersOne", fn := fun _ => fun
  | [d1, d2, d3] => { results := [.lit (.bool true)], args := [d1, d2, d3] }
  | _ => none }
def tiersOneRow : OpenClaim := { program := "ythgfdgkmmlbohaa", sum := "d0614e3f6358b385bdec45d95ed703abde8e42eb46fcc69e4945779d48484ad9", func := "quitrent/quitrentlaw11.TiersOne", spec := "tiersOne", inPlace := ["math/bits.Add64"], unfollowed := true, recurses := true, apart := false }
def TiersOneSaid : Prop := tiersOneRow.holds Try.pinned (OpenSpec.ofChange tiersOneSpec)

/-- ITS FALSE NEIGHBOUR: 'it returns false'. Refute it at one input. -/
def tiersOneWrong : ChangeSpec := { name := "tiersOne", fn := fun _ => fun
  | [d1, d2, d3] => { results := [.lit (.bool false)], args := [d1, d2, d3] }
  | _ => none }
def TiersOneWrongFalsely : Prop := tiersOneRow.holds Try.pinned (OpenSpec.ofChange tiersOneWrong)

/-- 'quitrentlaw11.TiersKnown': WHATEVER THE INPUT: true; the input reads as it did. -/
def tiersKnownSpec : ChangeSpec := { name := "tiersKnown", fn := fun _ => fun
  | [] => { results := [.lit (.bool true)], args := [] }
  | _ => none }
def tiersKnownRow : OpenClaim := { program := "ythgfdgkmmlbohaa", sum := "d0614e3f6358b385bdec45d95ed703abde8e42eb46fcc69e4945779d48484ad9", func := "quitrent/quitrentlaw11.TiersKnown", spec := "tiersKnown", inPlace := ["math/bits.Add64"], unfollowed := true, recurses := true, apart := false }
def TiersKnownSaid : Prop := tiersKnownRow.holds Try.pinned (OpenSpec.ofChange tiersKnownSpec)

/-- ITS FALSE NEIGHBOUR: 'it returns false'. Refute it at one input. -/
def tiersKnownWrong : ChangeSpec := { name := "tiersKnown", fn := fun _ => fun
  | [] => { results := [.lit (.bool false)], args := [] }
  | _ => none }
def TiersKnownWrongFalsely : Prop := tiersKnownRow.holds Try.pinned (OpenSpec.ofChange tiersKnownWrong)

/- THE SECOND FORM. 'bulk': how many values and letters a reading holds, each counted each time it is reached (what is shared counts as often as it is met; a slice's spare places count too). A statement '..UptoSaid' is the law's where the arguments, and the package variables that the reading takes, are together of bulk at most 1048576: NARROWER than '..Said'. Prove '..Said' where nothing that the law and all that it calls make is longer than what came in: it says more and counts as full. Else prove '..UptoSaid'. A law counts once. -/
mutual
def uptoBulk {H : Type} : DataW H → Nat
  | .lit (.string bytes) => bytes.length + 1
  | .lit _ => 1
  | .nil => 1
  | .ptr d => uptoBulk d + 1
  | .slice elems spare => uptoBulkAll elems + uptoBulkAll spare + 1
  | .agg parts => uptoBulkAll parts + 1
  | .iface _ d => uptoBulk d + 1
  | .map entries => uptoBulkEntries entries + 1
  | .held _ => 1
def uptoBulkAll {H : Type} : List (DataW H) → Nat
  | [] => 0
  | d :: r => uptoBulk d + uptoBulkAll r
def uptoBulkEntries {H : Type} : List (Lit × DataW H) → Nat
  | [] => 0
  | x :: r => uptoBulkEntry x + uptoBulkEntries r
def uptoBulkEntry {H : Type} : Lit × DataW H → Nat
  | (.string bytes, d) => bytes.length + uptoBulk d + 1
  | (_, d) => uptoBulk d + 1
 end
def uptoSmall : (H : Type) → List (DataW H) → Bool := fun _ ds => decide (uptoBulkAll ds ≤ 1048576)
def OpenSpec.upto (s : _root_.Go.ChangeSpec) : _root_.Go.OpenSpec := { _root_.Go.OpenSpec.ofChange s with cond := some uptoSmall }

/-- 'quitrentlaw11.TiersAll', WHERE WHAT IT READS IS OF BULK AT MOST 1048576: true; the input reads as it did. -/
def tiersAllUptoRow : OpenClaim := { program := "ythgfdgkmmlbohaa", sum := "d0614e3f6358b385bdec45d95ed703abde8e42eb46fcc69e4945779d48484ad9", func := "quitrent/quitrentlaw11.TiersAll", spec := "tiersAll", inPlace := ["math/bits.Add64"], unfollowed := true, recurses := true, apart := false, narrowed := true }
def TiersAllUptoSaid : Prop := tiersAllUptoRow.holds Try.pinned (OpenSpec.upto tiersAllSpec)

/-- 'quitrentlaw11.TiersNext', WHERE WHAT IT READS IS OF BULK AT MOST 1048576: true; the input reads as it did. -/
def tiersNextUptoRow : OpenClaim := { program := "ythgfdgkmmlbohaa", sum := "d0614e3f6358b385bdec45d95ed703abde8e42eb46fcc69e4945779d48484ad9", func := "quitrent/quitrentlaw11.TiersNext", spec := "tiersNext", inPlace := ["math/bits.Add64"], unfollowed := true, recurses := true, apart := false, narrowed := true }
def TiersNextUptoSaid : Prop := tiersNextUptoRow.holds Try.pinned (OpenSpec.upto tiersNextSpec)

/-- 'quitrentlaw11.TiersSpans', WHERE WHAT IT READS IS OF BULK AT MOST 1048576: true; the input reads as it did. -/
def tiersSpansUptoRow : OpenClaim := { program := "ythgfdgkmmlbohaa", sum := "d0614e3f6358b385bdec45d95ed703abde8e42eb46fcc69e4945779d48484ad9", func := "quitrent/quitrentlaw11.TiersSpans", spec := "tiersSpans", inPlace := ["math/bits.Add64"], unfollowed := true, recurses := true, apart := false, narrowed := true }
def TiersSpansUptoSaid : Prop := tiersSpansUptoRow.holds Try.pinned (OpenSpec.upto tiersSpansSpec)

/-- 'quitrentlaw11.TiersOne', WHERE WHAT IT READS IS OF BULK AT MOST 1048576: true; the input reads as it did. -/
def tiersOneUptoRow : OpenClaim := { program := "ythgfdgkmmlbohaa", sum := "d0614e3f6358b385bdec45d95ed703abde8e42eb46fcc69e4945779d48484ad9", func := "quitrent/quitrentlaw11.TiersOne", spec := "tiersOne", inPlace := ["math/bits.Add64"], unfollowed := true, recurses := true, apart := false, narrowed := true }
def TiersOneUptoSaid : Prop := tiersOneUptoRow.holds Try.pinned (OpenSpec.upto tiersOneSpec)

/-- 'quitrentlaw11.TiersKnown', WHERE WHAT IT READS IS OF BULK AT MOST 1048576: true; the input reads as it did. -/
def tiersKnownUptoRow : OpenClaim := { program := "ythgfdgkmmlbohaa", sum := "d0614e3f6358b385bdec45d95ed703abde8e42eb46fcc69e4945779d48484ad9", func := "quitrent/quitrentlaw11.TiersKnown", spec := "tiersKnown", inPlace := ["math/bits.Add64"], unfollowed := true, recurses := true, apart := false, narrowed := true }
def TiersKnownUptoSaid : Prop := tiersKnownUptoRow.holds Try.pinned (OpenSpec.upto tiersKnownSpec)

end Rows
end Go.Proofs.Ythgfdgkmmlbohaa
