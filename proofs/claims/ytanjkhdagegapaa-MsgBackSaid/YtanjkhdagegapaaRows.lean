/-
  No cell of these rows narrows 'for every input' (looked for: loops, veiled, ifaces, maps, wideKeys, modest, calm, conditions, laid).
  DERIVED. THE GIVEN ROWS OF THIS SEAT. 6 by the template 'for every input the law returns true; each argument reads behind the call as it read before'; 0 by the template 'total and deterministic' (their statements: YtanjkhdagegapaaTotals.lean).
  GIVEN WITH THE SEED: the statements are not yours to turn. If you find one false, say at which input.
  Laid BY PROGRAM, IN A SANDBOX (cutbox-rows.mjs): the forced cells as the released guide's own fill.sh prints them over the translation 33ad0a0ef123a59a… (all of the seat's roots in one cut). By AI agents, Wed Nov 11 2026. No macro, syntax, notation, axiom, sorry.
-/
import Derived.Test.YtanjkhdagegapaaChecked
import GoSem.Claim
import GoSem.ClaimJoined
import GoSem.ClaimMapViews
import Derived.JoinedTies
import Derived.KernelRfl
namespace Go.Proofs.Ytanjkhdagegapaa
/- THE CELL 'sum', in the pinned program and in every row, IS THE sha256 OF THE DUMP (.gsa) THAT YtanjkhdagegapaaProg.lean LOADS. Nothing in Lean hashes anything: it is a label: what it is worth is what the hold of that sum in a sandbox is worth. -/
noncomputable def Try.pinned : Pinned := { name := "ytanjkhdagegapaa", sum := "33ad0a0ef123a59afddc7433da7059a966725e06417149c92d81b91c38dce7ec", checked := Try.checked }
namespace Rows
def none {H : Type} : Left H := { results := [], args := [] }

/-- 'quitrentlaw25.MsgElse': WHATEVER THE INPUT: true; the input reads as it did. -/
def msgElseSpec : ChangeSpec := { name := "msgElse", fn := fun _ => fun
  | [d1, d2, d3] => { results := [.lit (.bool true)], args := [d1, d2, d3] }
  | _ => none }
def msgElseRow : OpenClaim := { program := "ytanjkhdagegapaa", sum := "33ad0a0ef123a59afddc7433da7059a966725e06417149c92d81b91c38dce7ec", func := "quitrent/quitrentlaw25.MsgElse", spec := "msgElse", inPlace := ["internal/bytealg.IndexByteString", "internal/bytealg.IndexString"], unfollowed := true, recurses := true, named := ["internal/bytealg.MaxLen"], apart := false }
def MsgElseSaid : Prop := msgElseRow.holds Try.pinned (OpenSpec.ofChange msgElseSpec)

/-- ITS FALSE NEIGHBOUR: 'it returns false'. Refute it at one input. -/
def msgElseWrong : ChangeSpec := { name := "msgElse", fn := fun _ => fun
  | [d1, d2, d3] => { results := [.lit (.bool false)], args := [d1, d2, d3] }
  | _ => none }
def MsgElseWrongFalsely : Prop := msgElseRow.holds Try.pinned (OpenSpec.ofChange msgElseWrong)

/-- 'quitrentlaw25.MsgKnown': WHATEVER THE INPUT: true; the input reads as it did. -/
def msgKnownSpec : ChangeSpec := { name := "msgKnown", fn := fun _ => fun
  | [] => { results := [.lit (.bool true)], args := [] }
  | _ => none }
def msgKnownRow : OpenClaim := { program := "ytanjkhdagegapaa", sum := "33ad0a0ef123a59afddc7433da7059a966725e06417149c92d81b91c38dce7ec", func := "quitrent/quitrentlaw25.MsgKnown", spec := "msgKnown", inPlace := ["internal/bytealg.IndexByteString", "internal/bytealg.IndexString"], unfollowed := true, recurses := true, named := ["internal/bytealg.MaxLen"], apart := false }
def MsgKnownSaid : Prop := msgKnownRow.holds Try.pinned (OpenSpec.ofChange msgKnownSpec)

/-- ITS FALSE NEIGHBOUR: 'it returns false'. Refute it at one input. -/
def msgKnownWrong : ChangeSpec := { name := "msgKnown", fn := fun _ => fun
  | [] => { results := [.lit (.bool false)], args := [] }
  | _ => none }
def MsgKnownWrongFalsely : Prop := msgKnownRow.holds Try.pinned (OpenSpec.ofChange msgKnownWrong)

/-- 'quitrentlaw25.MsgRequests': WHATEVER THE INPUT: true; the input reads as it did. -/
def msgRequestsSpec : ChangeSpec := { name := "msgRequests", fn := fun _ => fun
  | [d] => { results := [.lit (.bool true)], args := [d] }
  | _ => none }
def msgRequestsRow : OpenClaim := { program := "ytanjkhdagegapaa", sum := "33ad0a0ef123a59afddc7433da7059a966725e06417149c92d81b91c38dce7ec", func := "quitrent/quitrentlaw25.MsgRequests", spec := "msgRequests", inPlace := ["internal/bytealg.IndexByteString", "internal/bytealg.IndexString"], unfollowed := true, recurses := true, named := ["internal/bytealg.MaxLen"], apart := false }
def MsgRequestsSaid : Prop := msgRequestsRow.holds Try.pinned (OpenSpec.ofChange msgRequestsSpec)

/-- ITS FALSE NEIGHBOUR: 'it returns false'. Refute it at one input. -/
def msgRequestsWrong : ChangeSpec := { name := "msgRequests", fn := fun _ => fun
  | [d] => { results := [.lit (.bool false)], args := [d] }
  | _ => none }
def MsgRequestsWrongFalsely : Prop := msgRequestsRow.holds Try.pinned (OpenSpec.ofChange msgRequestsWrong)

/-- 'quitrentlaw25.MsgReads': WHATEVER THE INPUT: true; the input reads as it did. -/
def msgReadsSpec : ChangeSpec := { name := "msgReads", fn := fun _ => fun
  | [d] => { results := [.lit (.bool true)], args := [d] }
  | _ => none }
def msgReadsRow : OpenClaim := { program := "ytanjkhdagegapaa", sum := "33ad0a0ef123a59afddc7433da7059a966725e06417149c92d81b91c38dce7ec", func := "quitrent/quitrentlaw25.MsgReads", spec := "msgReads", inPlace := ["internal/bytealg.IndexByteString", "internal/bytealg.IndexString"], unfollowed := true, recurses := true, named := ["internal/bytealg.MaxLen"], apart := false }
def MsgReadsSaid : Prop := msgReadsRow.holds Try.pinned (OpenSpec.ofChange msgReadsSpec)

/-- ITS FALSE NEIGHBOUR: 'it returns false'. Refute it at one input. -/
def msgReadsWrong : ChangeSpec := { name := "msgReads", fn := fun _ => fun
  | [d] => { results := [.lit (.bool false)], args := [d] }
  | _ => none }
def MsgReadsWrongFalsely : Prop := msgReadsRow.holds Try.pinned (OpenSpec.ofChange msgReadsWrong)

/-- 'quitrentlaw25.MsgBack': WHATEVER THE INPUT: true; the input reads as it did. -/
def msgBackSpec : ChangeSpec := { name := "msgBack", fn := fun _ => fun
  | [d1, d2] => { results := [.lit (.bool true)], args := [d1, d2] }
  | _ => none }
def msgBackRow : OpenClaim := { program := "ytanjkhdagegapaa", sum := "33ad0a0ef123a59afddc7433da7059a966725e06417149c92d81b91c38dce7ec", func := "quitrent/quitrentlaw25.MsgBack", spec := "msgBack", inPlace := ["internal/bytealg.IndexByteString", "internal/bytealg.IndexString"], unfollowed := true, recurses := true, named := ["internal/bytealg.MaxLen"], apart := false }
def MsgBackSaid : Prop := msgBackRow.holds Try.pinned (OpenSpec.ofChange msgBackSpec)

/-- ITS FALSE NEIGHBOUR: 'it returns false'. Refute it at one input. -/
def msgBackWrong : ChangeSpec := { name := "msgBack", fn := fun _ => fun
  | [d1, d2] => { results := [.lit (.bool false)], args := [d1, d2] }
  | _ => none }
def MsgBackWrongFalsely : Prop := msgBackRow.holds Try.pinned (OpenSpec.ofChange msgBackWrong)

/-- 'quitrentlaw25.MsgReplies': WHATEVER THE INPUT: true; the input reads as it did. -/
def msgRepliesSpec : ChangeSpec := { name := "msgReplies", fn := fun _ => fun
  | [d1, d2] => { results := [.lit (.bool true)], args := [d1, d2] }
  | _ => none }
def msgRepliesRow : OpenClaim := { program := "ytanjkhdagegapaa", sum := "33ad0a0ef123a59afddc7433da7059a966725e06417149c92d81b91c38dce7ec", func := "quitrent/quitrentlaw25.MsgReplies", spec := "msgReplies", inPlace := ["internal/bytealg.IndexByteString", "internal/bytealg.IndexString"], unfollowed := true, recurses := true, named := ["internal/bytealg.MaxLen"], apart := false }
def MsgRepliesSaid : Prop := msgRepliesRow.holds Try.pinned (OpenSpec.ofChange msgRepliesSpec)

/-- ITS FALSE NEIGHBOUR: 'it returns false'. Refute it at one input. -/
def msgRepliesWrong : ChangeSpec := { name := "msgReplies", fn := fun _ => fun
  | [d1, d2] => { results := [.lit (.bool false)], args := [d1, d2] }
  | _ => none }
def MsgRepliesWrongFalsely : Prop := msgRepliesRow.holds Try.pinned (OpenSpec.ofChange msgRepliesWrong)

/- THE SECOND FORM. 'bulk': how many values and letters a reading holds, each counted each time it is reached (what is shared counts as often as it is met; a slice's spare places count too). A statement '..UptoSaid' is the law's where the arguments, and the package variables that the reading takes, are together of bulk at most 1048576: NARROWER than '..Said'. Prove '..Said' where nothing that the law and all that it calls make is longer than what came in: it says more and counts as full. Else prove '..UptoSaid'. A law counts once. -/
mutual
def uptoBulk {H : Type} : DataW H → Nat
  | .lit (.string bytes) => bytes.length + 1
  | .lit _ => 1
  | .nil => 1
  | .ptr d => uptoBulk d + 1
  | .slice elems spare => uptoBulkAll elems + uptoBulkAll spare + 1
  | .agg parts => uptoBulkAll parts + 1
  | .iface _ d => uptoBulk d + 1
  | .map entries => uptoBulkEntries entries + 1
  | .held _ => 1
def uptoBulkAll {H : Type} : List (DataW H) → Nat
  | [] => 0
  | d :: r => uptoBulk d + uptoBulkAll r
def uptoBulkEntries {H : Type} : List (Lit × DataW H) → Nat
  | [] => 0
  | x :: r => uptoBulkEntry x + uptoBulkEntries r
def uptoBulkEntry {H : Type} : Lit × DataW H → Nat
  | (.string bytes, d) => bytes.length + uptoBulk d + 1
  | (_, d) => uptoBulk d + 1
 end
def uptoSmall : (H : Type) → List (DataW H) → Bool := fun _ ds => decide (uptoBulkAll ds ≤ 1048576)
def OpenSpec.upto (s : _root_.Go.ChangeSpec) : _root_.Go.OpenSpec := { _root_.Go.OpenSpec.ofChange s with cond := some uptoSmall }

/-- 'quitrentlaw25.MsgElse', WHERE WHAT IT READS IS OF BULK AT MOST 1048576: true; the input reads as it did. -/
def msgElseUptoRow : OpenClaim := { program := "ytanjkhdagegapaa", sum := "33ad0a0ef123a59afddc7433da7059a966725e06417149c92d81b91c38dce7ec", func := "quitrent/quitrentlaw25.MsgElse", spec := "msgElse", inPlace := ["internal/bytealg.IndexByteString", "internal/bytealg.IndexString"], unfollowed := true, recurses := true, named := ["internal/bytealg.MaxLen"], apart := false, narrowed := true }
def MsgElseUptoSaid : Prop := msgElseUptoRow.holds Try.pinned (OpenSpec.upto msgElseSpec)

/-- 'quitrentlaw25.MsgKnown', WHERE WHAT IT READS IS OF BULK AT MOST 1048576: true; the input reads as it did. -/
def msgKnownUptoRow : OpenClaim := { program := "ytanjkhdagegapaa", sum := "33ad0a0ef123a59afddc7433da7059a966725e06417149c92d81b91c38dce7ec", func := "quitrent/quitrentlaw25.MsgKnown", spec := "msgKnown", inPlace := ["internal/bytealg.IndexByteString", "internal/bytealg.IndexString"], unfollowed := true, recurses := true, named := ["internal/bytealg.MaxLen"], apart := false, narrowed := true }
def MsgKnownUptoSaid : Prop := msgKnownUptoRow.holds Try.pinned (OpenSpec.upto msgKnownSpec)

/-- 'quitrentlaw25.MsgRequests', WHERE WHAT IT READS IS OF BULK AT MOST 1048576: true; the input reads as it did. -/
def msgRequestsUptoRow : OpenClaim := { program := "ytanjkhdagegapaa", sum := "33ad0a0ef123a59afddc7433da7059a966725e06417149c92d81b91c38dce7ec", func := "quitrent/quitrentlaw25.MsgRequests", spec := "msgRequests", inPlace := ["internal/bytealg.IndexByteString", "internal/bytealg.IndexString"], unfollowed := true, recurses := true, named := ["internal/bytealg.MaxLen"], apart := false, narrowed := true }
def MsgRequestsUptoSaid : Prop := msgRequestsUptoRow.holds Try.pinned (OpenSpec.upto msgRequestsSpec)

/-- 'quitrentlaw25.MsgReads', WHERE WHAT IT READS IS OF BULK AT MOST 1048576: true; the input reads as it did. -/
def msgReadsUptoRow : OpenClaim := { program := "ytanjkhdagegapaa", sum := "33ad0a0ef123a59afddc7433da7059a966725e06417149c92d81b91c38dce7ec", func := "quitrent/quitrentlaw25.MsgReads", spec := "msgReads", inPlace := ["internal/bytealg.IndexByteString", "internal/bytealg.IndexString"], unfollowed := true, recurses := true, named := ["internal/bytealg.MaxLen"], apart := false, narrowed := true }
def MsgReadsUptoSaid : Prop := msgReadsUptoRow.holds Try.pinned (OpenSpec.upto msgReadsSpec)

/-- 'quitrentlaw25.MsgBack', WHERE WHAT IT READS IS OF BULK AT MOST 1048576: true; the input reads as it did. -/
def msgBackUptoRow : OpenClaim := { program := "ytanjkhdagegapaa", sum := "33ad0a0ef123a59afddc7433da7059a966725e06417149c92d81b91c38dce7ec", func := "quitrent/quitrentlaw25.MsgBack", spec := "msgBack", inPlace := ["internal/bytealg.IndexByteString", "internal/bytealg.IndexString"], unfollowed := true, recurses := true, named := ["internal/bytealg.MaxLen"], apart := false, narrowed := true }
def MsgBackUptoSaid : Prop := msgBackUptoRow.holds Try.pinned (OpenSpec.upto msgBackSpec)

/-- 'quitrentlaw25.MsgReplies', WHERE WHAT IT READS IS OF BULK AT MOST 1048576: true; the input reads as it did. -/
def msgRepliesUptoRow : OpenClaim := { program := "ytanjkhdagegapaa", sum := "33ad0a0ef123a59afddc7433da7059a966725e06417149c92d81b91c38dce7ec", func := "quitrent/quitrentlaw25.MsgReplies", spec := "msgReplies", inPlace := ["internal/bytealg.IndexByteString", "internal/bytealg.IndexString"], unfollowed := true, recurses := true, named := ["internal/bytealg.MaxLen"], apart := false, narrowed := true }
def MsgRepliesUptoSaid : Prop := msgRepliesUptoRow.holds Try.pinned (OpenSpec.upto msgRepliesSpec)

end Rows
end Go.Proofs.Ytanjkhdagegapaa
