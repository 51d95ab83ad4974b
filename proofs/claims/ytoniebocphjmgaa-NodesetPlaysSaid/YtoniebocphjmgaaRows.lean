/-
  No cell of these rows narrows 'for every input' (looked for: loops, veiled, ifaces, maps, wideKeys, modest, calm, conditions, laid).
  DERIVED. THE GIVEN ROWS OF THIS SEAT. 12 by the template 'for every input the law returns true; each argument reads behind the call as it read before'; 0 by the template 'total and deterministic' (their statements: YtoniebocphjmgaaTotals.lean).
  GIVEN WITH THE SEED: the statements are not yours to turn. If you find one false, say at which input.
  Laid BY PROGRAM, IN A SANDBOX (cutbox-rows.mjs): the forced cells as the released guide's own fill.sh prints them over the translation 9e3c106ddb443003… (all of the seat's roots in one cut). By AI agents, Wed Nov 11 2026. No macro, syntax, notation, axiom, sorry.
-/
import Derived.Test.YtoniebocphjmgaaChecked
import GoSem.Claim
import GoSem.ClaimJoined
import GoSem.ClaimMapViews
import Derived.JoinedTies
import Derived.KernelRfl
namespace Go.Proofs.Ytoniebocphjmgaa
/- THE CELL 'sum', in the pinned program and in every row, IS THE sha256 OF THE DUMP (.gsa) THAT YtoniebocphjmgaaProg.lean LOADS. Nothing in Lean hashes anything: it is a label: what it is worth is what the hold of that sum in a sandbox is worth. -/
noncomputable def Try.pinned : Pinned := { name := "ytoniebocphjmgaa", sum := "9e3c106ddb4430038d59e4af932c99c44209bd7f12fd3da4f6c8219e920f7ec7", checked := Try.checked }
namespace Rows
def none {H : Type} : Left H := { results := [], args := [] }

/-- 'bellhoplaw02.DrawBelow': WHATEVER THE INPUT: true; the input reads as it did. -/
def drawBelowSpec : ChangeSpec := { name := "drawBelow", fn := fun _ => fun
  | [d1, d2] => { results := [.lit (.bool true)], args := [d1, d2] }
  | _ => none }
def drawBelowRow : OpenClaim := { program := "ytoniebocphjmgaa", sum := "9e3c106ddb4430038d59e4af932c99c44209bd7f12fd3da4f6c8219e920f7ec7", func := "bellhop/bellhoplaw02.DrawBelow", spec := "drawBelow", apart := false }
def DrawBelowSaid : Prop := drawBelowRow.holds Try.pinned (OpenSpec.ofChange drawBelowSpec)

/-- ITS FALSE NEIGHBOUR: 'it returns false'. Refute it at one input. -/
def drawBelowWrong : ChangeSpec := { name := "drawBelow", fn := fun _ => fun
  | [d1, d2] => { results := [.lit (.bool false)], args := [d1, d2] }
  | _ => none }
def DrawBelowWrongFalsely : Prop := drawBelowRow.holds Try.pinned (OpenSpec.ofChange drawBelowWrong)

/-- 'bellhoplaw02.DrawSome': WHATEVER THE INPUT: true; the input reads as it did. -/
def drawSomeSpec : ChangeSpec := { name := "drawSome", fn := fun _ => fun
  | [d1, d2, d3] => { results := [.lit (.bool true)], args := [d1, d2, d3] }
  | _ => none }
def drawSomeRow : OpenClaim := { program := "ytoniebocphjmgaa", sum := "9e3c106ddb4430038d59e4af932c99c44209bd7f12fd3da4f6c8219e920f7ec7", func := "bellhop/bellhoplaw02.DrawSome", spec := "drawSome", apart := false }
def DrawSomeSaid : Prop := drawSomeRow.holds Try.pinned (OpenSpec.ofChange drawSomeSpec)

/-- ITS FALSE NEIGHBOUR: 'it returns false'. Refute it at one input. -/
def drawSomeWrong : ChangeSpec := { name := "drawSome", fn := fun _ => fun
  | [d1, d2, d3] => { results := [.lit (.bool false)], args := [d1, d2, d3] }
  | _ => none }
def DrawSomeWrongFalsely : Prop := drawSomeRow.holds Try.pinned (OpenSpec.ofChange drawSomeWrong)

/-- 'bellhoplaw02.DrawAll': WHATEVER THE INPUT: true; the input reads as it did. -/
def drawAllSpec : ChangeSpec := { name := "drawAll", fn := fun _ => fun
  | [d1, d2, d3] => { results := [.lit (.bool true)], args := [d1, d2, d3] }
  | _ => none }
def drawAllRow : OpenClaim := { program := "ytoniebocphjmgaa", sum := "9e3c106ddb4430038d59e4af932c99c44209bd7f12fd3da4f6c8219e920f7ec7", func := "bellhop/bellhoplaw02.DrawAll", spec := "drawAll", apart := false }
def DrawAllSaid : Prop := drawAllRow.holds Try.pinned (OpenSpec.ofChange drawAllSpec)

/-- ITS FALSE NEIGHBOUR: 'it returns false'. Refute it at one input. -/
def drawAllWrong : ChangeSpec := { name := "drawAll", fn := fun _ => fun
  | [d1, d2, d3] => { results := [.lit (.bool false)], args := [d1, d2, d3] }
  | _ => none }
def DrawAllWrongFalsely : Prop := drawAllRow.holds Try.pinned (OpenSpec.ofChange drawAllWrong)

/-- 'bellhoplaw01.PackPanics': WHATEVER THE INPUT: true; the input reads as it did. -/
def packPanicsSpec : ChangeSpec := { name := "packPanics", fn := fun _ => fun
  | [d] => { results := [.lit (.bool true)], args := [d] }
  | _ => none }
def packPanicsRow : OpenClaim := { program := "ytoniebocphjmgaa", sum := "9e3c106ddb4430038d59e4af932c99c44209bd7f12fd3da4f6c8219e920f7ec7", func := "bellhop/bellhoplaw01.PackPanics", spec := "packPanics", inPlace := ["internal/abi.NoEscape"], unfollowed := true, recurses := true, apart := false }
def PackPanicsSaid : Prop := packPanicsRow.holds Try.pinned (OpenSpec.ofChange packPanicsSpec)

/-- ITS FALSE NEIGHBOUR: 'it returns false'. Refute it at one input. -/
def packPanicsWrong : ChangeSpec := { name := "packPanics", fn := fun _ => fun
  | [d] => { results := [.lit (.bool false)], args := [d] }
  | _ => none }
def PackPanicsWrongFalsely : Prop := packPanicsRow.holds Try.pinned (OpenSpec.ofChange packPanicsWrong)

/-- 'bellhoplaw01.PackOrder': WHATEVER THE INPUT: true; the input reads as it did. -/
def packOrderSpec : ChangeSpec := { name := "packOrder", fn := fun _ => fun
  | [d1, d2, d3] => { results := [.lit (.bool true)], args := [d1, d2, d3] }
  | _ => none }
def packOrderRow : OpenClaim := { program := "ytoniebocphjmgaa", sum := "9e3c106ddb4430038d59e4af932c99c44209bd7f12fd3da4f6c8219e920f7ec7", func := "bellhop/bellhoplaw01.PackOrder", spec := "packOrder", inPlace := ["internal/abi.NoEscape"], unfollowed := true, recurses := true, apart := false }
def PackOrderSaid : Prop := packOrderRow.holds Try.pinned (OpenSpec.ofChange packOrderSpec)

/-- ITS FALSE NEIGHBOUR: 'it returns false'. Refute it at one input. -/
def packOrderWrong : ChangeSpec := { name := "packOrder", fn := fun _ => fun
  | [d1, d2, d3] => { results := [.lit (.bool false)], args := [d1, d2, d3] }
  | _ => none }
def PackOrderWrongFalsely : Prop := packOrderRow.holds Try.pinned (OpenSpec.ofChange packOrderWrong)

/-- 'bellhoplaw01.PackWrites': WHATEVER THE INPUT: true; the input reads as it did. -/
def packWritesSpec : ChangeSpec := { name := "packWrites", fn := fun _ => fun
  | [d] => { results := [.lit (.bool true)], args := [d] }
  | _ => none }
def packWritesRow : OpenClaim := { program := "ytoniebocphjmgaa", sum := "9e3c106ddb4430038d59e4af932c99c44209bd7f12fd3da4f6c8219e920f7ec7", func := "bellhop/bellhoplaw01.PackWrites", spec := "packWrites", inPlace := ["internal/abi.NoEscape"], unfollowed := true, recurses := true, apart := false }
def PackWritesSaid : Prop := packWritesRow.holds Try.pinned (OpenSpec.ofChange packWritesSpec)

/-- ITS FALSE NEIGHBOUR: 'it returns false'. Refute it at one input. -/
def packWritesWrong : ChangeSpec := { name := "packWrites", fn := fun _ => fun
  | [d] => { results := [.lit (.bool false)], args := [d] }
  | _ => none }
def PackWritesWrongFalsely : Prop := packWritesRow.holds Try.pinned (OpenSpec.ofChange packWritesWrong)

/-- 'bellhoplaw01.PackReads': WHATEVER THE INPUT: true; the input reads as it did. -/
def packReadsSpec : ChangeSpec := { name := "packReads", fn := fun _ => fun
  | [d1, d2] => { results := [.lit (.bool true)], args := [d1, d2] }
  | _ => none }
def packReadsRow : OpenClaim := { program := "ytoniebocphjmgaa", sum := "9e3c106ddb4430038d59e4af932c99c44209bd7f12fd3da4f6c8219e920f7ec7", func := "bellhop/bellhoplaw01.PackReads", spec := "packReads", inPlace := ["internal/abi.NoEscape"], unfollowed := true, recurses := true, apart := false }
def PackReadsSaid : Prop := packReadsRow.holds Try.pinned (OpenSpec.ofChange packReadsSpec)

/-- ITS FALSE NEIGHBOUR: 'it returns false'. Refute it at one input. -/
def packReadsWrong : ChangeSpec := { name := "packReads", fn := fun _ => fun
  | [d1, d2] => { results := [.lit (.bool false)], args := [d1, d2] }
  | _ => none }
def PackReadsWrongFalsely : Prop := packReadsRow.holds Try.pinned (OpenSpec.ofChange packReadsWrong)

/-- 'bellhoplaw22.HeadCodes': WHATEVER THE INPUT: true; the input reads as it did. -/
def headCodesSpec : ChangeSpec := { name := "headCodes", fn := fun _ => fun
  | [d1, d2] => { results := [.lit (.bool true)], args := [d1, d2] }
  | _ => none }
def headCodesRow : OpenClaim := { program := "ytoniebocphjmgaa", sum := "9e3c106ddb4430038d59e4af932c99c44209bd7f12fd3da4f6c8219e920f7ec7", func := "bellhop/bellhoplaw22.HeadCodes", spec := "headCodes", inPlace := ["internal/abi.NoEscape"], unfollowed := true, recurses := true, apart := false }
def HeadCodesSaid : Prop := headCodesRow.holds Try.pinned (OpenSpec.ofChange headCodesSpec)

/-- ITS FALSE NEIGHBOUR: 'it returns false'. Refute it at one input. -/
def headCodesWrong : ChangeSpec := { name := "headCodes", fn := fun _ => fun
  | [d1, d2] => { results := [.lit (.bool false)], args := [d1, d2] }
  | _ => none }
def HeadCodesWrongFalsely : Prop := headCodesRow.holds Try.pinned (OpenSpec.ofChange headCodesWrong)

/-- 'bellhoplaw22.HeadReads': WHATEVER THE INPUT: true; the input reads as it did. -/
def headReadsSpec : ChangeSpec := { name := "headReads", fn := fun _ => fun
  | [d] => { results := [.lit (.bool true)], args := [d] }
  | _ => none }
def headReadsRow : OpenClaim := { program := "ytoniebocphjmgaa", sum := "9e3c106ddb4430038d59e4af932c99c44209bd7f12fd3da4f6c8219e920f7ec7", func := "bellhop/bellhoplaw22.HeadReads", spec := "headReads", inPlace := ["internal/abi.NoEscape"], unfollowed := true, recurses := true, apart := false }
def HeadReadsSaid : Prop := headReadsRow.holds Try.pinned (OpenSpec.ofChange headReadsSpec)

/-- ITS FALSE NEIGHBOUR: 'it returns false'. Refute it at one input. -/
def headReadsWrong : ChangeSpec := { name := "headReads", fn := fun _ => fun
  | [d] => { results := [.lit (.bool false)], args := [d] }
  | _ => none }
def HeadReadsWrongFalsely : Prop := headReadsRow.holds Try.pinned (OpenSpec.ofChange headReadsWrong)

/-- 'bellhoplaw03.NodesetOrder': WHATEVER THE INPUT: true; the input reads as it did. -/
def nodesetOrderSpec : ChangeSpec := { name := "nodesetOrder", fn := fun _ => fun
  | [d1, d2, d3] => { results := [.lit (.bool true)], args := [d1, d2, d3] }
  | _ => none }
def nodesetOrderRow : OpenClaim := { program := "ytoniebocphjmgaa", sum := "9e3c106ddb4430038d59e4af932c99c44209bd7f12fd3da4f6c8219e920f7ec7", func := "bellhop/bellhoplaw03.NodesetOrder", spec := "nodesetOrder", inPlace := ["slices.overlaps[int]"], unfollowed := true, recurses := true, apart := false }
def NodesetOrderSaid : Prop := nodesetOrderRow.holds Try.pinned (OpenSpec.ofChange nodesetOrderSpec)

/-- ITS FALSE NEIGHBOUR: 'it returns false'. Refute it at one input. -/
def nodesetOrderWrong : ChangeSpec := { name := "nodesetOrder", fn := fun _ => fun
  | [d1, d2, d3] => { results := [.lit (.bool false)], args := [d1, d2, d3] }
  | _ => none }
def NodesetOrderWrongFalsely : Prop := nodesetOrderRow.holds Try.pinned (OpenSpec.ofChange nodesetOrderWrong)

/-- 'bellhoplaw03.NodesetPlays': WHATEVER THE INPUT: true; the input reads as it did. -/
def nodesetPlaysSpec : ChangeSpec := { name := "nodesetPlays", fn := fun _ => fun
  | [d1, d2] => { results := [.lit (.bool true)], args := [d1, d2] }
  | _ => none }
def nodesetPlaysRow : OpenClaim := { program := "ytoniebocphjmgaa", sum := "9e3c106ddb4430038d59e4af932c99c44209bd7f12fd3da4f6c8219e920f7ec7", func := "bellhop/bellhoplaw03.NodesetPlays", spec := "nodesetPlays", inPlace := ["slices.overlaps[int]"], unfollowed := true, recurses := true, apart := false }
def NodesetPlaysSaid : Prop := nodesetPlaysRow.holds Try.pinned (OpenSpec.ofChange nodesetPlaysSpec)

/-- ITS FALSE NEIGHBOUR: 'it returns false'. Refute it at one input. -/
def nodesetPlaysWrong : ChangeSpec := { name := "nodesetPlays", fn := fun _ => fun
  | [d1, d2] => { results := [.lit (.bool false)], args := [d1, d2] }
  | _ => none }
def NodesetPlaysWrongFalsely : Prop := nodesetPlaysRow.holds Try.pinned (OpenSpec.ofChange nodesetPlaysWrong)

/-- 'bellhoplaw03.NodesetZero': WHATEVER THE INPUT: true; the input reads as it did. -/
def nodesetZeroSpec : ChangeSpec := { name := "nodesetZero", fn := fun _ => fun
  | [d] => { results := [.lit (.bool true)], args := [d] }
  | _ => none }
def nodesetZeroRow : OpenClaim := { program := "ytoniebocphjmgaa", sum := "9e3c106ddb4430038d59e4af932c99c44209bd7f12fd3da4f6c8219e920f7ec7", func := "bellhop/bellhoplaw03.NodesetZero", spec := "nodesetZero", inPlace := ["slices.overlaps[int]"], unfollowed := true, recurses := true, apart := false }
def NodesetZeroSaid : Prop := nodesetZeroRow.holds Try.pinned (OpenSpec.ofChange nodesetZeroSpec)

/-- ITS FALSE NEIGHBOUR: 'it returns false'. Refute it at one input. -/
def nodesetZeroWrong : ChangeSpec := { name := "nodesetZero", fn := fun _ => fun
  | [d] => { results := [.lit (.bool false)], args := [d] }
  | _ => none }
def NodesetZeroWrongFalsely : Prop := nodesetZeroRow.holds Try.pinned (OpenSpec.ofChange nodesetZeroWrong)

/- THE SECOND FORM. 'bulk': how many values and letters a reading holds, each counted each time it is reached (what is shared counts as often as it is met; a slice's spare places count too). A statement '..UptoSaid' is the law's where the arguments, and the package variables that the reading takes, are together of bulk at most 1048576: NARROWER than '..Said'. Prove '..Said' where nothing that the law and all that it calls make is longer than what came in: it says more and counts as full. Else prove '..UptoSaid'. A law counts once. -/
mutual
def uptoBulk {H : Type} : DataW H → Nat
  | .lit (.string bytes) => bytes.length + 1
  | .lit _ => 1
  | .nil => 1
  | .ptr d => uptoBulk d + 1
  | .slice elems spare => uptoBulkAll elems + uptoBulkAll spare + 1
  | .agg parts => uptoBulkAll parts + 1
  | .iface _ d => uptoBulk d + 1
  | .map entries => uptoBulkEntries entries + 1
  | .held _ => 1
def uptoBulkAll {H : Type} : List (DataW H) → Nat
  | [] => 0
  | d :: r => uptoBulk d + uptoBulkAll r
def uptoBulkEntries {H : Type} : List (Lit × DataW H) → Nat
  | [] => 0
  | x :: r => uptoBulkEntry x + uptoBulkEntries r
def uptoBulkEntry {H : Type} : Lit × DataW H → Nat
  | (.string bytes, d) => bytes.length + uptoBulk d + 1
  | (_, d) => uptoBulk d + 1
 end
def uptoSmall : (H : Type) → List (DataW H) → Bool := fun _ ds => decide (uptoBulkAll ds ≤ 1048576)
def OpenSpec.upto (s : _root_.Go.ChangeSpec) : _root_.Go.OpenSpec := { _root_.Go.OpenSpec.ofChange s with cond := some uptoSmall }

/-- 'bellhoplaw02.DrawBelow', WHERE WHAT IT READS IS OF BULK AT MOST 1048576: true; the input reads as it did. -/
def drawBelowUptoRow : OpenClaim := { program := "ytoniebocphjmgaa", sum := "9e3c106ddb4430038d59e4af932c99c44209bd7f12fd3da4f6c8219e920f7ec7", func := "bellhop/bellhoplaw02.DrawBelow", spec := "drawBelow", apart := false, narrowed := true }
def DrawBelowUptoSaid : Prop := drawBelowUptoRow.holds Try.pinned (OpenSpec.upto drawBelowSpec)

/-- 'bellhoplaw02.DrawSome', WHERE WHAT IT READS IS OF BULK AT MOST 1048576: true; the input reads as it did. -/
def drawSomeUptoRow : OpenClaim := { program := "ytoniebocphjmgaa", sum := "9e3c106ddb4430038d59e4af932c99c44209bd7f12fd3da4f6c8219e920f7ec7", func := "bellhop/bellhoplaw02.DrawSome", spec := "drawSome", apart := false, narrowed := true }
def DrawSomeUptoSaid : Prop := drawSomeUptoRow.holds Try.pinned (OpenSpec.upto drawSomeSpec)

/-- 'bellhoplaw02.DrawAll', WHERE WHAT IT READS IS OF BULK AT MOST 1048576: true; the input reads as it did. -/
def drawAllUptoRow : OpenClaim := { program := "ytoniebocphjmgaa", sum := "9e3c106ddb4430038d59e4af932c99c44209bd7f12fd3da4f6c8219e920f7ec7", func := "bellhop/bellhoplaw02.DrawAll", spec := "drawAll", apart := false, narrowed := true }
def DrawAllUptoSaid : Prop := drawAllUptoRow.holds Try.pinned (OpenSpec.upto drawAllSpec)

/-- 'bellhoplaw01.PackPanics', WHERE WHAT IT READS IS OF BULK AT MOST 1048576: true; the input reads as it did. -/
def packPanicsUptoRow : OpenClaim := { program := "ytoniebocphjmgaa", sum := "9e3c106ddb4430038d59e4af932c99c44209bd7f12fd3da4f6c8219e920f7ec7", func := "bellhop/bellhoplaw01.PackPanics", spec := "packPanics", inPlace := ["internal/abi.NoEscape"], unfollowed := true, recurses := true, apart := false, narrowed := true }
def PackPanicsUptoSaid : Prop := packPanicsUptoRow.holds Try.pinned (OpenSpec.upto packPanicsSpec)

/-- 'bellhoplaw01.PackOrder', WHERE WHAT IT READS IS OF BULK AT MOST 1048576: true; the input reads as it did. -/
def packOrderUptoRow : OpenClaim := { program := "ytoniebocphjmgaa", sum := "9e3c106ddb4430038d59e4af932c99c44209bd7f12fd3da4f6c8219e920f7ec7", func := "bellhop/bellhoplaw01.PackOrder", spec := "packOrder", inPlace := ["internal/abi.NoEscape"], unfollowed := true, recurses := true, apart := false, narrowed := true }
def PackOrderUptoSaid : Prop := packOrderUptoRow.holds Try.pinned (OpenSpec.upto packOrderSpec)

/-- 'bellhoplaw01.PackWrites', WHERE WHAT IT READS IS OF BULK AT MOST 1048576: true; the input reads as it did. -/
def packWritesUptoRow : OpenClaim := { program := "ytoniebocphjmgaa", sum := "9e3c106ddb4430038d59e4af932c99c44209bd7f12fd3da4f6c8219e920f7ec7", func := "bellhop/bellhoplaw01.PackWrites", spec := "packWrites", inPlace := ["internal/abi.NoEscape"], unfollowed := true, recurses := true, apart := false, narrowed := true }
def PackWritesUptoSaid : Prop := packWritesUptoRow.holds Try.pinned (OpenSpec.upto packWritesSpec)

/-- 'bellhoplaw01.PackReads', WHERE WHAT IT READS IS OF BULK AT MOST 1048576: true; the input reads as it did. -/
def packReadsUptoRow : OpenClaim := { program := "ytoniebocphjmgaa", sum := "9e3c106ddb4430038d59e4af932c99c44209bd7f12fd3da4f6c8219e920f7ec7", func := "bellhop/bellhoplaw01.PackReads", spec := "packReads", inPlace := ["internal/abi.NoEscape"], unfollowed := true, recurses := true, apart := false, narrowed := true }
def PackReadsUptoSaid : Prop := packReadsUptoRow.holds Try.pinned (OpenSpec.upto packReadsSpec)

/-- 'bellhoplaw22.HeadCodes', WHERE WHAT IT READS IS OF BULK AT MOST 1048576: true; the input reads as it did. -/
def headCodesUptoRow : OpenClaim := { program := "ytoniebocphjmgaa", sum := "9e3c106ddb4430038d59e4af932c99c44209bd7f12fd3da4f6c8219e920f7ec7", func := "bellhop/bellhoplaw22.HeadCodes", spec := "headCodes", inPlace := ["internal/abi.NoEscape"], unfollowed := true, recurses := true, apart := false, narrowed := true }
def HeadCodesUptoSaid : Prop := headCodesUptoRow.holds Try.pinned (OpenSpec.upto headCodesSpec)

/-- 'bellhoplaw22.HeadReads', WHERE WHAT IT READS IS OF BULK AT MOST 1048576: true; the input reads as it did. -/
def headReadsUptoRow : OpenClaim := { program := "ytoniebocphjmgaa", sum := "9e3c106ddb4430038d59e4af932c99c44209bd7f12fd3da4f6c8219e920f7ec7", func := "bellhop/bellhoplaw22.HeadReads", spec := "headReads", inPlace := ["internal/abi.NoEscape"], unfollowed := true, recurses := true, apart := false, narrowed := true }
def HeadReadsUptoSaid : Prop := headReadsUptoRow.holds Try.pinned (OpenSpec.upto headReadsSpec)

/-- 'bellhoplaw03.NodesetOrder', WHERE WHAT IT READS IS OF BULK AT MOST 1048576: true; the input reads as it did. -/
def nodesetOrderUptoRow : OpenClaim := { program := "ytoniebocphjmgaa", sum := "9e3c106ddb4430038d59e4af932c99c44209bd7f12fd3da4f6c8219e920f7ec7", func := "bellhop/bellhoplaw03.NodesetOrder", spec := "nodesetOrder", inPlace := ["slices.overlaps[int]"], unfollowed := true, recurses := true, apart := false, narrowed := true }
def NodesetOrderUptoSaid : Prop := nodesetOrderUptoRow.holds Try.pinned (OpenSpec.upto nodesetOrderSpec)

/-- 'bellhoplaw03.NodesetPlays', WHERE WHAT IT READS IS OF BULK AT MOST 1048576: true; the input reads as it did. -/
def nodesetPlaysUptoRow : OpenClaim := { program := "ytoniebocphjmgaa", sum := "9e3c106ddb4430038d59e4af932c99c44209bd7f12fd3da4f6c8219e920f7ec7", func := "bellhop/bellhoplaw03.NodesetPlays", spec := "nodesetPlays", inPlace := ["slices.overlaps[int]"], unfollowed := true, recurses := true, apart := false, narrowed := true }
def NodesetPlaysUptoSaid : Prop := nodesetPlaysUptoRow.holds Try.pinned (OpenSpec.upto nodesetPlaysSpec)

/-- 'bellhoplaw03.NodesetZero', WHERE WHAT IT READS IS OF BULK AT MOST 1048576: true; the input reads as it did. -/
def nodesetZeroUptoRow : OpenClaim := { program := "ytoniebocphjmgaa", sum := "9e3c106ddb4430038d59e4af932c99c44209bd7f12fd3da4f6c8219e920f7ec7", func := "bellhop/bellhoplaw03.NodesetZero", spec := "nodesetZero", inPlace := ["slices.overlaps[int]"], unfollowed := true, recurses := true, apart := false, narrowed := true }
def NodesetZeroUptoSaid : Prop := nodesetZeroUptoRow.holds Try.pinned (OpenSpec.upto nodesetZeroSpec)

end Rows
end Go.Proofs.Ytoniebocphjmgaa
