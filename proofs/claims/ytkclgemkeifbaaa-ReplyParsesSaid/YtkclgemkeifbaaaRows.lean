/-
  No cell of these rows narrows 'for every input' (looked for: loops, veiled, ifaces, maps, wideKeys, modest, calm, conditions, laid).
  DERIVED. THE GIVEN ROWS OF THIS SEAT. 12 by the template 'for every input the law returns true; each argument reads behind the call as it read before'; 0 by the template 'total and deterministic' (their statements: YtkclgemkeifbaaaTotals.lean).
  GIVEN WITH THE SEED: the statements are not yours to turn. If you find one false, say at which input.
  Laid BY PROGRAM, IN A SANDBOX (cutbox-rows.mjs): the forced cells as the released guide's own fill.sh prints them over the translation 3eb343936618fa52… (all of the seat's roots in one cut). By AI agents, Wed Nov 11 2026. No macro, syntax, notation, axiom, sorry.
-/
import Derived.Test.YtkclgemkeifbaaaChecked
import GoSem.Claim
import GoSem.ClaimJoined
import GoSem.ClaimMapViews
import Derived.JoinedTies
import Derived.KernelRfl
namespace Go.Proofs.Ytkclgemkeifbaaa
/- THE CELL 'sum', in the pinned program and in every row, IS THE sha256 OF THE DUMP (.gsa) THAT YtkclgemkeifbaaaProg.lean LOADS. Nothing in Lean hashes anything: it is a label: what it is worth is what the hold of that sum in a sandbox is worth. -/
noncomputable def Try.pinned : Pinned := { name := "ytkclgemkeifbaaa", sum := "3eb343936618fa528b8e57e8b8f360c0ab730c9cfa702e7fbdd305b388f7c0bb", checked := Try.checked }
namespace Rows
def none {H : Type} : Left H := { results := [], args := [] }

/-- 'bellhoplaw05.MessageCodes': WHATEVER THE INPUT: true; the input reads as it did. -/
def messageCodesSpec : ChangeSpec := { name := "messageCodes", fn := fun _ => fun
  | [d] => { results := [.lit (.bool true)], args := [d] }
  | _ => none }
def messageCodesRow : OpenClaim := { program := "ytkclgemkeifbaaa", sum := "3eb343936618fa528b8e57e8b8f360c0ab730c9cfa702e7fbdd305b388f7c0bb", func := "bellhop/bellhoplaw05.MessageCodes", spec := "messageCodes", inPlace := ["internal/abi.NoEscape"], unfollowed := true, recurses := true, apart := false }
def MessageCodesSaid : Prop := messageCodesRow.holds Try.pinned (OpenSpec.ofChange messageCodesSpec)

/-- ITS FALSE NEIGHBOUR: 'it returns false'. Refute it at one input. -/
def messageCodesWrong : ChangeSpec := { name := "messageCodes", fn := fun _ => fun
  | [d] => { results := [.lit (.bool false)], args := [d] }
  | _ => none }
def MessageCodesWrongFalsely : Prop := messageCodesRow.holds Try.pinned (OpenSpec.ofChange messageCodesWrong)

/-- 'bellhoplaw05.MessageParses': WHATEVER THE INPUT: true; the input reads as it did. -/
def messageParsesSpec : ChangeSpec := { name := "messageParses", fn := fun _ => fun
  | [d1, d2, d3] => { results := [.lit (.bool true)], args := [d1, d2, d3] }
  | _ => none }
def messageParsesRow : OpenClaim := { program := "ytkclgemkeifbaaa", sum := "3eb343936618fa528b8e57e8b8f360c0ab730c9cfa702e7fbdd305b388f7c0bb", func := "bellhop/bellhoplaw05.MessageParses", spec := "messageParses", inPlace := ["internal/abi.NoEscape"], unfollowed := true, recurses := true, apart := false }
def MessageParsesSaid : Prop := messageParsesRow.holds Try.pinned (OpenSpec.ofChange messageParsesSpec)

/-- ITS FALSE NEIGHBOUR: 'it returns false'. Refute it at one input. -/
def messageParsesWrong : ChangeSpec := { name := "messageParses", fn := fun _ => fun
  | [d1, d2, d3] => { results := [.lit (.bool false)], args := [d1, d2, d3] }
  | _ => none }
def MessageParsesWrongFalsely : Prop := messageParsesRow.holds Try.pinned (OpenSpec.ofChange messageParsesWrong)

/-- 'bellhoplaw05.MessageSames': WHATEVER THE INPUT: true; the input reads as it did. -/
def messageSamesSpec : ChangeSpec := { name := "messageSames", fn := fun _ => fun
  | [d1, d2, d3] => { results := [.lit (.bool true)], args := [d1, d2, d3] }
  | _ => none }
def messageSamesRow : OpenClaim := { program := "ytkclgemkeifbaaa", sum := "3eb343936618fa528b8e57e8b8f360c0ab730c9cfa702e7fbdd305b388f7c0bb", func := "bellhop/bellhoplaw05.MessageSames", spec := "messageSames", inPlace := ["internal/abi.NoEscape"], unfollowed := true, recurses := true, apart := false }
def MessageSamesSaid : Prop := messageSamesRow.holds Try.pinned (OpenSpec.ofChange messageSamesSpec)

/-- ITS FALSE NEIGHBOUR: 'it returns false'. Refute it at one input. -/
def messageSamesWrong : ChangeSpec := { name := "messageSames", fn := fun _ => fun
  | [d1, d2, d3] => { results := [.lit (.bool false)], args := [d1, d2, d3] }
  | _ => none }
def MessageSamesWrongFalsely : Prop := messageSamesRow.holds Try.pinned (OpenSpec.ofChange messageSamesWrong)

/-- 'bellhoplaw06.StreamBad': WHATEVER THE INPUT: true; the input reads as it did. -/
def streamBadSpec : ChangeSpec := { name := "streamBad", fn := fun _ => fun
  | [d1, d2] => { results := [.lit (.bool true)], args := [d1, d2] }
  | _ => none }
def streamBadRow : OpenClaim := { program := "ytkclgemkeifbaaa", sum := "3eb343936618fa528b8e57e8b8f360c0ab730c9cfa702e7fbdd305b388f7c0bb", func := "bellhop/bellhoplaw06.StreamBad", spec := "streamBad", inPlace := ["internal/abi.NoEscape"], unfollowed := true, recurses := true, apart := false }
def StreamBadSaid : Prop := streamBadRow.holds Try.pinned (OpenSpec.ofChange streamBadSpec)

/-- ITS FALSE NEIGHBOUR: 'it returns false'. Refute it at one input. -/
def streamBadWrong : ChangeSpec := { name := "streamBad", fn := fun _ => fun
  | [d1, d2] => { results := [.lit (.bool false)], args := [d1, d2] }
  | _ => none }
def StreamBadWrongFalsely : Prop := streamBadRow.holds Try.pinned (OpenSpec.ofChange streamBadWrong)

/-- 'bellhoplaw23.QueryParses': WHATEVER THE INPUT: true; the input reads as it did. -/
def queryParsesSpec : ChangeSpec := { name := "queryParses", fn := fun _ => fun
  | [d] => { results := [.lit (.bool true)], args := [d] }
  | _ => none }
def queryParsesRow : OpenClaim := { program := "ytkclgemkeifbaaa", sum := "3eb343936618fa528b8e57e8b8f360c0ab730c9cfa702e7fbdd305b388f7c0bb", func := "bellhop/bellhoplaw23.QueryParses", spec := "queryParses", inPlace := ["internal/abi.NoEscape"], unfollowed := true, recurses := true, apart := false }
def QueryParsesSaid : Prop := queryParsesRow.holds Try.pinned (OpenSpec.ofChange queryParsesSpec)

/-- ITS FALSE NEIGHBOUR: 'it returns false'. Refute it at one input. -/
def queryParsesWrong : ChangeSpec := { name := "queryParses", fn := fun _ => fun
  | [d] => { results := [.lit (.bool false)], args := [d] }
  | _ => none }
def QueryParsesWrongFalsely : Prop := queryParsesRow.holds Try.pinned (OpenSpec.ofChange queryParsesWrong)

/-- 'bellhoplaw23.QueryAsks': WHATEVER THE INPUT: true; the input reads as it did. -/
def queryAsksSpec : ChangeSpec := { name := "queryAsks", fn := fun _ => fun
  | [d1, d2, d3] => { results := [.lit (.bool true)], args := [d1, d2, d3] }
  | _ => none }
def queryAsksRow : OpenClaim := { program := "ytkclgemkeifbaaa", sum := "3eb343936618fa528b8e57e8b8f360c0ab730c9cfa702e7fbdd305b388f7c0bb", func := "bellhop/bellhoplaw23.QueryAsks", spec := "queryAsks", inPlace := ["internal/abi.NoEscape"], unfollowed := true, recurses := true, apart := false }
def QueryAsksSaid : Prop := queryAsksRow.holds Try.pinned (OpenSpec.ofChange queryAsksSpec)

/-- ITS FALSE NEIGHBOUR: 'it returns false'. Refute it at one input. -/
def queryAsksWrong : ChangeSpec := { name := "queryAsks", fn := fun _ => fun
  | [d1, d2, d3] => { results := [.lit (.bool false)], args := [d1, d2, d3] }
  | _ => none }
def QueryAsksWrongFalsely : Prop := queryAsksRow.holds Try.pinned (OpenSpec.ofChange queryAsksWrong)

/-- 'bellhoplaw23.QueryCuts': WHATEVER THE INPUT: true; the input reads as it did. -/
def queryCutsSpec : ChangeSpec := { name := "queryCuts", fn := fun _ => fun
  | [d] => { results := [.lit (.bool true)], args := [d] }
  | _ => none }
def queryCutsRow : OpenClaim := { program := "ytkclgemkeifbaaa", sum := "3eb343936618fa528b8e57e8b8f360c0ab730c9cfa702e7fbdd305b388f7c0bb", func := "bellhop/bellhoplaw23.QueryCuts", spec := "queryCuts", inPlace := ["internal/abi.NoEscape"], unfollowed := true, recurses := true, apart := false }
def QueryCutsSaid : Prop := queryCutsRow.holds Try.pinned (OpenSpec.ofChange queryCutsSpec)

/-- ITS FALSE NEIGHBOUR: 'it returns false'. Refute it at one input. -/
def queryCutsWrong : ChangeSpec := { name := "queryCuts", fn := fun _ => fun
  | [d] => { results := [.lit (.bool false)], args := [d] }
  | _ => none }
def QueryCutsWrongFalsely : Prop := queryCutsRow.holds Try.pinned (OpenSpec.ofChange queryCutsWrong)

/-- 'bellhoplaw06.StreamPieces': WHATEVER THE INPUT: true; the input reads as it did. -/
def streamPiecesSpec : ChangeSpec := { name := "streamPieces", fn := fun _ => fun
  | [d1, d2, d3] => { results := [.lit (.bool true)], args := [d1, d2, d3] }
  | _ => none }
def streamPiecesRow : OpenClaim := { program := "ytkclgemkeifbaaa", sum := "3eb343936618fa528b8e57e8b8f360c0ab730c9cfa702e7fbdd305b388f7c0bb", func := "bellhop/bellhoplaw06.StreamPieces", spec := "streamPieces", inPlace := ["internal/abi.NoEscape"], unfollowed := true, recurses := true, apart := false }
def StreamPiecesSaid : Prop := streamPiecesRow.holds Try.pinned (OpenSpec.ofChange streamPiecesSpec)

/-- ITS FALSE NEIGHBOUR: 'it returns false'. Refute it at one input. -/
def streamPiecesWrong : ChangeSpec := { name := "streamPieces", fn := fun _ => fun
  | [d1, d2, d3] => { results := [.lit (.bool false)], args := [d1, d2, d3] }
  | _ => none }
def StreamPiecesWrongFalsely : Prop := streamPiecesRow.holds Try.pinned (OpenSpec.ofChange streamPiecesWrong)

/-- 'bellhoplaw06.StreamJoins': WHATEVER THE INPUT: true; the input reads as it did. -/
def streamJoinsSpec : ChangeSpec := { name := "streamJoins", fn := fun _ => fun
  | [d1, d2, d3] => { results := [.lit (.bool true)], args := [d1, d2, d3] }
  | _ => none }
def streamJoinsRow : OpenClaim := { program := "ytkclgemkeifbaaa", sum := "3eb343936618fa528b8e57e8b8f360c0ab730c9cfa702e7fbdd305b388f7c0bb", func := "bellhop/bellhoplaw06.StreamJoins", spec := "streamJoins", inPlace := ["internal/abi.NoEscape"], unfollowed := true, recurses := true, apart := false }
def StreamJoinsSaid : Prop := streamJoinsRow.holds Try.pinned (OpenSpec.ofChange streamJoinsSpec)

/-- ITS FALSE NEIGHBOUR: 'it returns false'. Refute it at one input. -/
def streamJoinsWrong : ChangeSpec := { name := "streamJoins", fn := fun _ => fun
  | [d1, d2, d3] => { results := [.lit (.bool false)], args := [d1, d2, d3] }
  | _ => none }
def StreamJoinsWrongFalsely : Prop := streamJoinsRow.holds Try.pinned (OpenSpec.ofChange streamJoinsWrong)

/-- 'bellhoplaw24.ReplyBuilds': WHATEVER THE INPUT: true; the input reads as it did. -/
def replyBuildsSpec : ChangeSpec := { name := "replyBuilds", fn := fun _ => fun
  | [d1, d2] => { results := [.lit (.bool true)], args := [d1, d2] }
  | _ => none }
def replyBuildsRow : OpenClaim := { program := "ytkclgemkeifbaaa", sum := "3eb343936618fa528b8e57e8b8f360c0ab730c9cfa702e7fbdd305b388f7c0bb", func := "bellhop/bellhoplaw24.ReplyBuilds", spec := "replyBuilds", inPlace := ["internal/abi.NoEscape"], unfollowed := true, recurses := true, apart := false }
def ReplyBuildsSaid : Prop := replyBuildsRow.holds Try.pinned (OpenSpec.ofChange replyBuildsSpec)

/-- ITS FALSE NEIGHBOUR: 'it returns false'. Refute it at one input. -/
def replyBuildsWrong : ChangeSpec := { name := "replyBuilds", fn := fun _ => fun
  | [d1, d2] => { results := [.lit (.bool false)], args := [d1, d2] }
  | _ => none }
def ReplyBuildsWrongFalsely : Prop := replyBuildsRow.holds Try.pinned (OpenSpec.ofChange replyBuildsWrong)

/-- 'bellhoplaw24.ReplyTells': WHATEVER THE INPUT: true; the input reads as it did. -/
def replyTellsSpec : ChangeSpec := { name := "replyTells", fn := fun _ => fun
  | [d1, d2] => { results := [.lit (.bool true)], args := [d1, d2] }
  | _ => none }
def replyTellsRow : OpenClaim := { program := "ytkclgemkeifbaaa", sum := "3eb343936618fa528b8e57e8b8f360c0ab730c9cfa702e7fbdd305b388f7c0bb", func := "bellhop/bellhoplaw24.ReplyTells", spec := "replyTells", inPlace := ["internal/abi.NoEscape"], unfollowed := true, recurses := true, apart := false }
def ReplyTellsSaid : Prop := replyTellsRow.holds Try.pinned (OpenSpec.ofChange replyTellsSpec)

/-- ITS FALSE NEIGHBOUR: 'it returns false'. Refute it at one input. -/
def replyTellsWrong : ChangeSpec := { name := "replyTells", fn := fun _ => fun
  | [d1, d2] => { results := [.lit (.bool false)], args := [d1, d2] }
  | _ => none }
def ReplyTellsWrongFalsely : Prop := replyTellsRow.holds Try.pinned (OpenSpec.ofChange replyTellsWrong)

/-- 'bellhoplaw24.ReplyParses': WHATEVER THE INPUT: true; the input reads as it did. -/
def replyParsesSpec : ChangeSpec := { name := "replyParses", fn := fun _ => fun
  | [d] => { results := [.lit (.bool true)], args := [d] }
  | _ => none }
def replyParsesRow : OpenClaim := { program := "ytkclgemkeifbaaa", sum := "3eb343936618fa528b8e57e8b8f360c0ab730c9cfa702e7fbdd305b388f7c0bb", func := "bellhop/bellhoplaw24.ReplyParses", spec := "replyParses", inPlace := ["internal/abi.NoEscape"], unfollowed := true, recurses := true, apart := false }
def ReplyParsesSaid : Prop := replyParsesRow.holds Try.pinned (OpenSpec.ofChange replyParsesSpec)

/-- ITS FALSE NEIGHBOUR: 'it returns false'. Refute it at one input. -/
def replyParsesWrong : ChangeSpec := { name := "replyParses", fn := fun _ => fun
  | [d] => { results := [.lit (.bool false)], args := [d] }
  | _ => none }
def ReplyParsesWrongFalsely : Prop := replyParsesRow.holds Try.pinned (OpenSpec.ofChange replyParsesWrong)

/- THE SECOND FORM. 'bulk': how many values and letters a reading holds, each counted each time it is reached (what is shared counts as often as it is met; a slice's spare places count too). A statement '..UptoSaid' is the law's where the arguments, and the package variables that the reading takes, are together of bulk at most 1048576: NARROWER than '..Said'. Prove '..Said' where nothing that the law and all that it calls make is longer than what came in: it says more and counts as full. Else prove '..UptoSaid'. A law counts once. -/
mutual
def uptoBulk {H : Type} : DataW H → Nat
  | .lit (.string bytes) => bytes.length + 1
  | .lit _ => 1
  | .nil => 1
  | .ptr d => uptoBulk d + 1
  | .slice elems spare => uptoBulkAll elems + uptoBulkAll spare + 1
  | .agg parts => uptoBulkAll parts + 1
  | .iface _ d => uptoBulk d + 1
  | .map entries => uptoBulkEntries entries + 1
  | .held _ => 1
def uptoBulkAll {H : Type} : List (DataW H) → Nat
  | [] => 0
  | d :: r => uptoBulk d + uptoBulkAll r
def uptoBulkEntries {H : Type} : List (Lit × DataW H) → Nat
  | [] => 0
  | x :: r => uptoBulkEntry x + uptoBulkEntries r
def uptoBulkEntry {H : Type} : Lit × DataW H → Nat
  | (.string bytes, d) => bytes.length + uptoBulk d + 1
  | (_, d) => uptoBulk d + 1
 end
def uptoSmall : (H : Type) → List (DataW H) → Bool := fun _ ds => decide (uptoBulkAll ds ≤ 1048576)
def OpenSpec.upto (s : _root_.Go.ChangeSpec) : _root_.Go.OpenSpec := { _root_.Go.OpenSpec.ofChange s with cond := some uptoSmall }

/-- 'bellhoplaw05.MessageCodes', WHERE WHAT IT READS IS OF BULK AT MOST 1048576: true; the input reads as it did. -/
def messageCodesUptoRow : OpenClaim := { program := "ytkclgemkeifbaaa", sum := "3eb343936618fa528b8e57e8b8f360c0ab730c9cfa702e7fbdd305b388f7c0bb", func := "bellhop/bellhoplaw05.MessageCodes", spec := "messageCodes", inPlace := ["internal/abi.NoEscape"], unfollowed := true, recurses := true, apart := false, narrowed := true }
def MessageCodesUptoSaid : Prop := messageCodesUptoRow.holds Try.pinned (OpenSpec.upto messageCodesSpec)

/-- 'bellhoplaw05.MessageParses', WHERE WHAT IT READS IS OF BULK AT MOST 1048576: true; the input reads as it did. -/
def messageParsesUptoRow : OpenClaim := { program := "ytkclgemkeifbaaa", sum := "3eb343936618fa528b8e57e8b8f360c0ab730c9cfa702e7fbdd305b388f7c0bb", func := "bellhop/bellhoplaw05.MessageParses", spec := "messageParses", inPlace := ["internal/abi.NoEscape"], unfollowed := true, recurses := true, apart := false, narrowed := true }
def MessageParsesUptoSaid : Prop := messageParsesUptoRow.holds Try.pinned (OpenSpec.upto messageParsesSpec)

/-- 'bellhoplaw05.MessageSames', WHERE WHAT IT READS IS OF BULK AT MOST 1048576: true; the input reads as it did. -/
def messageSamesUptoRow : OpenClaim := { program := "ytkclgemkeifbaaa", sum := "3eb343936618fa528b8e57e8b8f360c0ab730c9cfa702e7fbdd305b388f7c0bb", func := "bellhop/bellhoplaw05.MessageSames", spec := "messageSames", inPlace := ["internal/abi.NoEscape"], unfollowed := true, recurses := true, apart := false, narrowed := true }
def MessageSamesUptoSaid : Prop := messageSamesUptoRow.holds Try.pinned (OpenSpec.upto messageSamesSpec)

/-- 'bellhoplaw06.StreamBad', WHERE WHAT IT READS IS OF BULK AT MOST 1048576: true; the input reads as it did. -/
def streamBadUptoRow : OpenClaim := { program := "ytkclgemkeifbaaa", sum := "3eb343936618fa528b8e57e8b8f360c0ab730c9cfa702e7fbdd305b388f7c0bb", func := "bellhop/bellhoplaw06.StreamBad", spec := "streamBad", inPlace := ["internal/abi.NoEscape"], unfollowed := true, recurses := true, apart := false, narrowed := true }
def StreamBadUptoSaid : Prop := streamBadUptoRow.holds Try.pinned (OpenSpec.upto streamBadSpec)

/-- 'bellhoplaw23.QueryParses', WHERE WHAT IT READS IS OF BULK AT MOST 1048576: true; the input reads as it did. -/
def queryParsesUptoRow : OpenClaim := { program := "ytkclgemkeifbaaa", sum := "3eb343936618fa528b8e57e8b8f360c0ab730c9cfa702e7fbdd305b388f7c0bb", func := "bellhop/bellhoplaw23.QueryParses", spec := "queryParses", inPlace := ["internal/abi.NoEscape"], unfollowed := true, recurses := true, apart := false, narrowed := true }
def QueryParsesUptoSaid : Prop := queryParsesUptoRow.holds Try.pinned (OpenSpec.upto queryParsesSpec)

/-- 'bellhoplaw23.QueryAsks', WHERE WHAT IT READS IS OF BULK AT MOST 1048576: true; the input reads as it did. -/
def queryAsksUptoRow : OpenClaim := { program := "ytkclgemkeifbaaa", sum := "3eb343936618fa528b8e57e8b8f360c0ab730c9cfa702e7fbdd305b388f7c0bb", func := "bellhop/bellhoplaw23.QueryAsks", spec := "queryAsks", inPlace := ["internal/abi.NoEscape"], unfollowed := true, recurses := true, apart := false, narrowed := true }
def QueryAsksUptoSaid : Prop := queryAsksUptoRow.holds Try.pinned (OpenSpec.upto queryAsksSpec)

/-- 'bellhoplaw23.QueryCuts', WHERE WHAT IT READS IS OF BULK AT MOST 1048576: true; the input reads as it did. -/
def queryCutsUptoRow : OpenClaim := { program := "ytkclgemkeifbaaa", sum := "3eb343936618fa528b8e57e8b8f360c0ab730c9cfa702e7fbdd305b388f7c0bb", func := "bellhop/bellhoplaw23.QueryCuts", spec := "queryCuts", inPlace := ["internal/abi.NoEscape"], unfollowed := true, recurses := true, apart := false, narrowed := true }
def QueryCutsUptoSaid : Prop := queryCutsUptoRow.holds Try.pinned (OpenSpec.upto queryCutsSpec)

/-- 'bellhoplaw06.StreamPieces', WHERE WHAT IT READS IS OF BULK AT MOST 1048576: true; the input reads as it did. -/
def streamPiecesUptoRow : OpenClaim := { program := "ytkclgemkeifbaaa", sum := "3eb343936618fa528b8e57e8b8f360c0ab730c9cfa702e7fbdd305b388f7c0bb", func := "bellhop/bellhoplaw06.StreamPieces", spec := "streamPieces", inPlace := ["internal/abi.NoEscape"], unfollowed := true, recurses := true, apart := false, narrowed := true }
def StreamPiecesUptoSaid : Prop := streamPiecesUptoRow.holds Try.pinned (OpenSpec.upto streamPiecesSpec)

/-- 'bellhoplaw06.StreamJoins', WHERE WHAT IT READS IS OF BULK AT MOST 1048576: true; the input reads as it did. -/
def streamJoinsUptoRow : OpenClaim := { program := "ytkclgemkeifbaaa", sum := "3eb343936618fa528b8e57e8b8f360c0ab730c9cfa702e7fbdd305b388f7c0bb", func := "bellhop/bellhoplaw06.StreamJoins", spec := "streamJoins", inPlace := ["internal/abi.NoEscape"], unfollowed := true, recurses := true, apart := false, narrowed := true }
def StreamJoinsUptoSaid : Prop := streamJoinsUptoRow.holds Try.pinned (OpenSpec.upto streamJoinsSpec)

/-- 'bellhoplaw24.ReplyBuilds', WHERE WHAT IT READS IS OF BULK AT MOST 1048576: true; the input reads as it did. -/
def replyBuildsUptoRow : OpenClaim := { program := "ytkclgemkeifbaaa", sum := "3eb343936618fa528b8e57e8b8f360c0ab730c9cfa702e7fbdd305b388f7c0bb", func := "bellhop/bellhoplaw24.ReplyBuilds", spec := "replyBuilds", inPlace := ["internal/abi.NoEscape"], unfollowed := true, recurses := true, apart := false, narrowed := true }
def ReplyBuildsUptoSaid : Prop := replyBuildsUptoRow.holds Try.pinned (OpenSpec.upto replyBuildsSpec)

/-- 'bellhoplaw24.ReplyTells', WHERE WHAT IT READS IS OF BULK AT MOST 1048576: true; the input reads as it did. -/
def replyTellsUptoRow : OpenClaim := { program := "ytkclgemkeifbaaa", sum := "3eb343936618fa528b8e57e8b8f360c0ab730c9cfa702e7fbdd305b388f7c0bb", func := "bellhop/bellhoplaw24.ReplyTells", spec := "replyTells", inPlace := ["internal/abi.NoEscape"], unfollowed := true, recurses := true, apart := false, narrowed := true }
def ReplyTellsUptoSaid : Prop := replyTellsUptoRow.holds Try.pinned (OpenSpec.upto replyTellsSpec)

/-- 'bellhoplaw24.ReplyParses', WHERE WHAT IT READS IS OF BULK AT MOST 1048576: true; the input reads as it did. -/
def replyParsesUptoRow : OpenClaim := { program := "ytkclgemkeifbaaa", sum := "3eb343936618fa528b8e57e8b8f360c0ab730c9cfa702e7fbdd305b388f7c0bb", func := "bellhop/bellhoplaw24.ReplyParses", spec := "replyParses", inPlace := ["internal/abi.NoEscape"], unfollowed := true, recurses := true, apart := false, narrowed := true }
def ReplyParsesUptoSaid : Prop := replyParsesUptoRow.holds Try.pinned (OpenSpec.upto replyParsesSpec)

end Rows
end Go.Proofs.Ytkclgemkeifbaaa
