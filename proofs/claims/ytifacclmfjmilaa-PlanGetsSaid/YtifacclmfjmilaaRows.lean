/-
  No cell of these rows narrows 'for every input' (looked for: loops, veiled, ifaces, maps, wideKeys, modest, calm, conditions, laid).
  DERIVED. THE GIVEN ROWS OF THIS SEAT. 6 by the template 'for every input the law returns true; each argument reads behind the call as it read before'; 0 by the template 'total and deterministic' (their statements: YtifacclmfjmilaaTotals.lean).
  GIVEN WITH THE SEED: the statements are not yours to turn. If you find one false, say at which input.
  Laid BY PROGRAM, IN A SANDBOX (cutbox-rows.mjs): the forced cells as the released guide's own fill.sh prints them over the translation e8a6fd47aa210045… (all of the seat's roots in one cut). By AI agents, Wed Nov 11 2026. No macro, syntax, notation, axiom, sorry.
-/
import Derived.Test.YtifacclmfjmilaaChecked
import GoSem.Claim
import GoSem.ClaimJoined
import GoSem.ClaimMapViews
import Derived.JoinedTies
import Derived.KernelRfl
namespace Go.Proofs.Ytifacclmfjmilaa
/- THE CELL 'sum', in the pinned program and in every row, IS THE sha256 OF THE DUMP (.gsa) THAT YtifacclmfjmilaaProg.lean LOADS. Nothing in Lean hashes anything: it is a label: what it is worth is what the hold of that sum in a sandbox is worth. -/
noncomputable def Try.pinned : Pinned := { name := "ytifacclmfjmilaa", sum := "e8a6fd47aa210045df24a03f982bfbba6d40888c9b81dc62ec56ce2806cb43b8", checked := Try.checked }
namespace Rows
def none {H : Type} : Left H := { results := [], args := [] }

/-- 'quitrentlaw13.PlanPuts': WHATEVER THE INPUT: true; the input reads as it did. -/
def planPutsSpec : ChangeSpec := { name := "planPuts", fn := fun _ => fun
  | [d] => { results := [.lit (.bool true)], args := [d] }
  | _ => none }
def planPutsRow : OpenClaim := { program := "ytifacclmfjmilaa", sum := "e8a6fd47aa210045df24a03f982bfbba6d40888c9b81dc62ec56ce2806cb43b8", func := "quitrent/quitrentlaw13.PlanPuts", spec := "planPuts", unfollowed := true, recurses := true, apart := false }
def PlanPutsSaid : Prop := planPutsRow.holds Try.pinned (OpenSpec.ofChange planPutsSpec)

/-- ITS FALSE NEIGHBOUR: 'it returns false'. Refute it at one input. -/
def planPutsWrong : ChangeSpec := { name := "planPuts", fn := fun _ => fun
  | [d] => { results := [.lit (.bool false)], args := [d] }
  | _ => none }
def PlanPutsWrongFalsely : Prop := planPutsRow.holds Try.pinned (OpenSpec.ofChange planPutsWrong)

/-- 'quitrentlaw13.PlanGets': WHATEVER THE INPUT: true; the input reads as it did. -/
def planGetsSpec : ChangeSpec := { name := "planGets", fn := fun _ => fun
  | [d] => { results := [.lit (.bool true)], args := [d] }
  | _ => none }
def planGetsRow : OpenClaim := { program := "ytifacclmfjmilaa", sum := "e8a6fd47aa210045df24a03f982bfbba6d40888c9b81dc62ec56ce2806cb43b8", func := "quitrent/quitrentlaw13.PlanGets", spec := "planGets", unfollowed := true, recurses := true, apart := false }
def PlanGetsSaid : Prop := planGetsRow.holds Try.pinned (OpenSpec.ofChange planGetsSpec)

/-- ITS FALSE NEIGHBOUR: 'it returns false'. Refute it at one input. -/
def planGetsWrong : ChangeSpec := { name := "planGets", fn := fun _ => fun
  | [d] => { results := [.lit (.bool false)], args := [d] }
  | _ => none }
def PlanGetsWrongFalsely : Prop := planGetsRow.holds Try.pinned (OpenSpec.ofChange planGetsWrong)

/-- 'quitrentlaw13.PlanBack': WHATEVER THE INPUT: true; the input reads as it did. -/
def planBackSpec : ChangeSpec := { name := "planBack", fn := fun _ => fun
  | [d1, d2] => { results := [.lit (.bool true)], args := [d1, d2] }
  | _ => none }
def planBackRow : OpenClaim := { program := "ytifacclmfjmilaa", sum := "e8a6fd47aa210045df24a03f982bfbba6d40888c9b81dc62ec56ce2806cb43b8", func := "quitrent/quitrentlaw13.PlanBack", spec := "planBack", unfollowed := true, recurses := true, apart := false }
def PlanBackSaid : Prop := planBackRow.holds Try.pinned (OpenSpec.ofChange planBackSpec)

/-- ITS FALSE NEIGHBOUR: 'it returns false'. Refute it at one input. -/
def planBackWrong : ChangeSpec := { name := "planBack", fn := fun _ => fun
  | [d1, d2] => { results := [.lit (.bool false)], args := [d1, d2] }
  | _ => none }
def PlanBackWrongFalsely : Prop := planBackRow.holds Try.pinned (OpenSpec.ofChange planBackWrong)

/-- 'quitrentlaw13.PlanReads': WHATEVER THE INPUT: true; the input reads as it did. -/
def planReadsSpec : ChangeSpec := { name := "planReads", fn := fun _ => fun
  | [d] => { results := [.lit (.bool true)], args := [d] }
  | _ => none }
def planReadsRow : OpenClaim := { program := "ytifacclmfjmilaa", sum := "e8a6fd47aa210045df24a03f982bfbba6d40888c9b81dc62ec56ce2806cb43b8", func := "quitrent/quitrentlaw13.PlanReads", spec := "planReads", unfollowed := true, recurses := true, apart := false }
def PlanReadsSaid : Prop := planReadsRow.holds Try.pinned (OpenSpec.ofChange planReadsSpec)

/-- ITS FALSE NEIGHBOUR: 'it returns false'. Refute it at one input. -/
def planReadsWrong : ChangeSpec := { name := "planReads", fn := fun _ => fun
  | [d] => { results := [.lit (.bool false)], args := [d] }
  | _ => none }
def PlanReadsWrongFalsely : Prop := planReadsRow.holds Try.pinned (OpenSpec.ofChange planReadsWrong)

/-- 'quitrentlaw13.PlanRoom': WHATEVER THE INPUT: true; the input reads as it did. -/
def planRoomSpec : ChangeSpec := { name := "planRoom", fn := fun _ => fun
  | [d1, d2, d3] => { results := [.lit (.bool true)], args := [d1, d2, d3] }
  | _ => none }
def planRoomRow : OpenClaim := { program := "ytifacclmfjmilaa", sum := "e8a6fd47aa210045df24a03f982bfbba6d40888c9b81dc62ec56ce2806cb43b8", func := "quitrent/quitrentlaw13.PlanRoom", spec := "planRoom", unfollowed := true, recurses := true, apart := false }
def PlanRoomSaid : Prop := planRoomRow.holds Try.pinned (OpenSpec.ofChange planRoomSpec)

/-- ITS FALSE NEIGHBOUR: 'it returns false'. Refute it at one input. -/
def planRoomWrong : ChangeSpec := { name := "planRoom", fn := fun _ => fun
  | [d1, d2, d3] => { results := [.lit (.bool false)], args := [d1, d2, d3] }
  | _ => none }
def PlanRoomWrongFalsely : Prop := planRoomRow.holds Try.pinned (OpenSpec.ofChange planRoomWrong)

/-- 'quitrentlaw13.PlanKnown': WHATEVER THE INPUT: true; the input reads as it did. -/
def planKnownSpec : ChangeSpec := { name := "planKnown", fn := fun _ => fun
  | [] => { results := [.lit (.bool true)], args := [] }
  | _ => none }
def planKnownRow : OpenClaim := { program := "ytifacclmfjmilaa", sum := "e8a6fd47aa210045df24a03f982bfbba6d40888c9b81dc62ec56ce2806cb43b8", func := "quitrent/quitrentlaw13.PlanKnown", spec := "planKnown", unfollowed := true, recurses := true, apart := false }
def PlanKnownSaid : Prop := planKnownRow.holds Try.pinned (OpenSpec.ofChange planKnownSpec)

/-- ITS FALSE NEIGHBOUR: 'it returns false'. Refute it at one input. -/
def planKnownWrong : ChangeSpec := { name := "planKnown", fn := fun _ => fun
  | [] => { results := [.lit (.bool false)], args := [] }
  | _ => none }
def PlanKnownWrongFalsely : Prop := planKnownRow.holds Try.pinned (OpenSpec.ofChange planKnownWrong)

/- THE SECOND FORM. 'bulk': how many values and letters a reading holds, each counted each time it is reached (what is shared counts as often as it is met; a slice's spare places count too). A statement '..UptoSaid' is the law's where the arguments, and the package variables that the reading takes, are together of bulk at most 1048576: NARROWER than '..Said'. Prove '..Said' where nothing that the law and all that it calls make is longer than what came in: it says more and counts as full. Else prove '..UptoSaid'. A law counts once. -/
mutual
def uptoBulk {H : Type} : DataW H → Nat
  | .lit (.string bytes) => bytes.length + 1
  | .lit _ => 1
  | .nil => 1
  | .ptr d => uptoBulk d + 1
  | .slice elems spare => uptoBulkAll elems + uptoBulkAll spare + 1
  | .agg parts => uptoBulkAll parts + 1
  | .iface _ d => uptoBulk d + 1
  | .map entries => uptoBulkEntries entries + 1
  | .held _ => 1
def uptoBulkAll {H : Type} : List (DataW H) → Nat
  | [] => 0
  | d :: r => uptoBulk d + uptoBulkAll r
def uptoBulkEntries {H : Type} : List (Lit × DataW H) → Nat
  | [] => 0
  | x :: r => uptoBulkEntry x + uptoBulkEntries r
def uptoBulkEntry {H : Type} : Lit × DataW H → Nat
  | (.string bytes, d) => bytes.length + uptoBulk d + 1
  | (_, d) => uptoBulk d + 1
 end
def uptoSmall : (H : Type) → List (DataW H) → Bool := fun _ ds => decide (uptoBulkAll ds ≤ 1048576)
def OpenSpec.upto (s : _root_.Go.ChangeSpec) : _root_.Go.OpenSpec := { _root_.Go.OpenSpec.ofChange s with cond := some uptoSmall }

/-- 'quitrentlaw13.PlanPuts', WHERE WHAT IT READS IS OF BULK AT MOST 1048576: true; the input reads as it did. -/
def planPutsUptoRow : OpenClaim := { program := "ytifacclmfjmilaa", sum := "e8a6fd47aa210045df24a03f982bfbba6d40888c9b81dc62ec56ce2806cb43b8", func := "quitrent/quitrentlaw13.PlanPuts", spec := "planPuts", unfollowed := true, recurses := true, apart := false, narrowed := true }
def PlanPutsUptoSaid : Prop := planPutsUptoRow.holds Try.pinned (OpenSpec.upto planPutsSpec)

/-- 'quitrentlaw13.PlanGets', WHERE WHAT IT READS IS OF BULK AT MOST 1048576: true; the input reads as it did. -/
def planGetsUptoRow : OpenClaim := { program := "ytifacclmfjmilaa", sum := "e8a6fd47aa210045df24a03f982bfbba6d40888c9b81dc62ec56ce2806cb43b8", func := "quitrent/quitrentlaw13.PlanGets", spec := "planGets", unfollowed := true, recurses := true, apart := false, narrowed := true }
def PlanGetsUptoSaid : Prop := planGetsUptoRow.holds Try.pinned (OpenSpec.upto planGetsSpec)

/-- 'quitrentlaw13.PlanBack', WHERE WHAT IT READS IS OF BULK AT MOST 1048576: true; the input reads as it did. -/
def planBackUptoRow : OpenClaim := { program := "ytifacclmfjmilaa", sum := "e8a6fd47aa210045df24a03f982bfbba6d40888c9b81dc62ec56ce2806cb43b8", func := "quitrent/quitrentlaw13.PlanBack", spec := "planBack", unfollowed := true, recurses := true, apart := false, narrowed := true }
def PlanBackUptoSaid : Prop := planBackUptoRow.holds Try.pinned (OpenSpec.upto planBackSpec)

/-- 'quitrentlaw13.PlanReads', WHERE WHAT IT READS IS OF BULK AT MOST 1048576: true; the input reads as it did. -/
def planReadsUptoRow : OpenClaim := { program := "ytifacclmfjmilaa", sum := "e8a6fd47aa210045df24a03f982bfbba6d40888c9b81dc62ec56ce2806cb43b8", func := "quitrent/quitrentlaw13.PlanReads", spec := "planReads", unfollowed := true, recurses := true, apart := false, narrowed := true }
def PlanReadsUptoSaid : Prop := planReadsUptoRow.holds Try.pinned (OpenSpec.upto planReadsSpec)

/-- 'quitrentlaw13.PlanRoom', WHERE WHAT IT READS IS OF BULK AT MOST 1048576: true; the input reads as it did. -/
def planRoomUptoRow : OpenClaim := { program := "ytifacclmfjmilaa", sum := "e8a6fd47aa210045df24a03f982bfbba6d40888c9b81dc62ec56ce2806cb43b8", func := "quitrent/quitrentlaw13.PlanRoom", spec := "planRoom", unfollowed := true, recurses := true, apart := false, narrowed := true }
def PlanRoomUptoSaid : Prop := planRoomUptoRow.holds Try.pinned (OpenSpec.upto planRoomSpec)

/-- 'quitrentlaw13.PlanKnown', WHERE WHAT IT READS IS OF BULK AT MOST 1048576: true; the input reads as it did. -/
def planKnownUptoRow : OpenClaim := { program := "ytifacclmfjmilaa", sum := "e8a6fd47aa210045df24a03f982bfbba6d40888c9b81dc62ec56ce2806cb43b8", func := "quitrent/quitrentlaw13.PlanKnown", spec := "planKnown", unfollowed := true, recurses := true, apart := false, narrowed := true }
def PlanKnownUptoSaid : Prop := planKnownUptoRow.holds Try.pinned (OpenSpec.upto planKnownSpec)

end Rows
end Go.Proofs.Ytifacclmfjmilaa
