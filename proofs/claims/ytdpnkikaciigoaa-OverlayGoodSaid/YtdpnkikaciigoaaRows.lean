/-
  No cell of these rows narrows 'for every input' (looked for: loops, veiled, ifaces, maps, wideKeys, modest, calm, conditions, laid).
  DERIVED. THE GIVEN ROWS OF THIS SEAT. 12 by the template 'for every input the law returns true; each argument reads behind the call as it read before'; 0 by the template 'total and deterministic' (their statements: YtdpnkikaciigoaaTotals.lean).
  GIVEN WITH THE SEED: the statements are not yours to turn. If you find one false, say at which input.
  Laid BY PROGRAM, IN A SANDBOX (cutbox-rows.mjs): the forced cells as the released guide's own fill.sh prints them over the translation 7de48092bddeea59… (all of the seat's roots in one cut). By AI agents, Wed Nov 11 2026. No macro, syntax, notation, axiom, sorry.
-/
import Derived.Test.YtdpnkikaciigoaaChecked
import GoSem.Claim
import GoSem.ClaimJoined
import GoSem.ClaimMapViews
import Derived.JoinedTies
import Derived.KernelRfl
namespace Go.Proofs.Ytdpnkikaciigoaa
/- THE CELL 'sum', in the pinned program and in every row, IS THE sha256 OF THE DUMP (.gsa) THAT YtdpnkikaciigoaaProg.lean LOADS. Nothing in Lean hashes anything: it is a label: what it is worth is what the hold of that sum in a sandbox is worth. -/
noncomputable def Try.pinned : Pinned := { name := "ytdpnkikaciigoaa", sum := "7de48092bddeea5959446d3d4d2a573319f9e7f807d07d8a8f437974967d46a6", checked := Try.checked }
namespace Rows
def none {H : Type} : Left H := { results := [], args := [] }

/-- 'bellhoplaw10.WalkSteps': WHATEVER THE INPUT: true; the input reads as it did. -/
def walkStepsSpec : ChangeSpec := { name := "walkSteps", fn := fun _ => fun
  | [d1, d2, d3] => { results := [.lit (.bool true)], args := [d1, d2, d3] }
  | _ => none }
def walkStepsRow : OpenClaim := { program := "ytdpnkikaciigoaa", sum := "7de48092bddeea5959446d3d4d2a573319f9e7f807d07d8a8f437974967d46a6", func := "bellhop/bellhoplaw10.WalkSteps", spec := "walkSteps", inPlace := ["slices.overlaps[int]"], unfollowed := true, recurses := true, apart := false }
def WalkStepsSaid : Prop := walkStepsRow.holds Try.pinned (OpenSpec.ofChange walkStepsSpec)

/-- ITS FALSE NEIGHBOUR: 'it returns false'. Refute it at one input. -/
def walkStepsWrong : ChangeSpec := { name := "walkSteps", fn := fun _ => fun
  | [d1, d2, d3] => { results := [.lit (.bool false)], args := [d1, d2, d3] }
  | _ => none }
def WalkStepsWrongFalsely : Prop := walkStepsRow.holds Try.pinned (OpenSpec.ofChange walkStepsWrong)

/-- 'bellhoplaw09.ViewSane': WHATEVER THE INPUT: true; the input reads as it did. -/
def viewSaneSpec : ChangeSpec := { name := "viewSane", fn := fun _ => fun
  | [d1, d2, d3] => { results := [.lit (.bool true)], args := [d1, d2, d3] }
  | _ => none }
def viewSaneRow : OpenClaim := { program := "ytdpnkikaciigoaa", sum := "7de48092bddeea5959446d3d4d2a573319f9e7f807d07d8a8f437974967d46a6", func := "bellhop/bellhoplaw09.ViewSane", spec := "viewSane", inPlace := ["slices.overlaps[int]"], unfollowed := true, recurses := true, apart := false }
def ViewSaneSaid : Prop := viewSaneRow.holds Try.pinned (OpenSpec.ofChange viewSaneSpec)

/-- ITS FALSE NEIGHBOUR: 'it returns false'. Refute it at one input. -/
def viewSaneWrong : ChangeSpec := { name := "viewSane", fn := fun _ => fun
  | [d1, d2, d3] => { results := [.lit (.bool false)], args := [d1, d2, d3] }
  | _ => none }
def ViewSaneWrongFalsely : Prop := viewSaneRow.holds Try.pinned (OpenSpec.ofChange viewSaneWrong)

/-- 'bellhoplaw09.ViewPlays': WHATEVER THE INPUT: true; the input reads as it did. -/
def viewPlaysSpec : ChangeSpec := { name := "viewPlays", fn := fun _ => fun
  | [d1, d2, d3] => { results := [.lit (.bool true)], args := [d1, d2, d3] }
  | _ => none }
def viewPlaysRow : OpenClaim := { program := "ytdpnkikaciigoaa", sum := "7de48092bddeea5959446d3d4d2a573319f9e7f807d07d8a8f437974967d46a6", func := "bellhop/bellhoplaw09.ViewPlays", spec := "viewPlays", inPlace := ["slices.overlaps[int]"], unfollowed := true, recurses := true, apart := false }
def ViewPlaysSaid : Prop := viewPlaysRow.holds Try.pinned (OpenSpec.ofChange viewPlaysSpec)

/-- ITS FALSE NEIGHBOUR: 'it returns false'. Refute it at one input. -/
def viewPlaysWrong : ChangeSpec := { name := "viewPlays", fn := fun _ => fun
  | [d1, d2, d3] => { results := [.lit (.bool false)], args := [d1, d2, d3] }
  | _ => none }
def ViewPlaysWrongFalsely : Prop := viewPlaysRow.holds Try.pinned (OpenSpec.ofChange viewPlaysWrong)

/-- 'bellhoplaw09.ViewEvicts': WHATEVER THE INPUT: true; the input reads as it did. -/
def viewEvictsSpec : ChangeSpec := { name := "viewEvicts", fn := fun _ => fun
  | [d1, d2, d3] => { results := [.lit (.bool true)], args := [d1, d2, d3] }
  | _ => none }
def viewEvictsRow : OpenClaim := { program := "ytdpnkikaciigoaa", sum := "7de48092bddeea5959446d3d4d2a573319f9e7f807d07d8a8f437974967d46a6", func := "bellhop/bellhoplaw09.ViewEvicts", spec := "viewEvicts", inPlace := ["slices.overlaps[int]"], unfollowed := true, recurses := true, apart := false }
def ViewEvictsSaid : Prop := viewEvictsRow.holds Try.pinned (OpenSpec.ofChange viewEvictsSpec)

/-- ITS FALSE NEIGHBOUR: 'it returns false'. Refute it at one input. -/
def viewEvictsWrong : ChangeSpec := { name := "viewEvicts", fn := fun _ => fun
  | [d1, d2, d3] => { results := [.lit (.bool false)], args := [d1, d2, d3] }
  | _ => none }
def ViewEvictsWrongFalsely : Prop := viewEvictsRow.holds Try.pinned (OpenSpec.ofChange viewEvictsWrong)

/-- 'bellhoplaw10.WalkEnds': WHATEVER THE INPUT: true; the input reads as it did. -/
def walkEndsSpec : ChangeSpec := { name := "walkEnds", fn := fun _ => fun
  | [d] => { results := [.lit (.bool true)], args := [d] }
  | _ => none }
def walkEndsRow : OpenClaim := { program := "ytdpnkikaciigoaa", sum := "7de48092bddeea5959446d3d4d2a573319f9e7f807d07d8a8f437974967d46a6", func := "bellhop/bellhoplaw10.WalkEnds", spec := "walkEnds", inPlace := ["slices.overlaps[int]"], unfollowed := true, recurses := true, apart := false }
def WalkEndsSaid : Prop := walkEndsRow.holds Try.pinned (OpenSpec.ofChange walkEndsSpec)

/-- ITS FALSE NEIGHBOUR: 'it returns false'. Refute it at one input. -/
def walkEndsWrong : ChangeSpec := { name := "walkEnds", fn := fun _ => fun
  | [d] => { results := [.lit (.bool false)], args := [d] }
  | _ => none }
def WalkEndsWrongFalsely : Prop := walkEndsRow.holds Try.pinned (OpenSpec.ofChange walkEndsWrong)

/-- 'bellhoplaw12.MixSamples': WHATEVER THE INPUT: true; the input reads as it did. -/
def mixSamplesSpec : ChangeSpec := { name := "mixSamples", fn := fun _ => fun
  | [d1, d2, d3] => { results := [.lit (.bool true)], args := [d1, d2, d3] }
  | _ => none }
def mixSamplesRow : OpenClaim := { program := "ytdpnkikaciigoaa", sum := "7de48092bddeea5959446d3d4d2a573319f9e7f807d07d8a8f437974967d46a6", func := "bellhop/bellhoplaw12.MixSamples", spec := "mixSamples", inPlace := ["slices.overlaps[int]"], apart := false }
def MixSamplesSaid : Prop := mixSamplesRow.holds Try.pinned (OpenSpec.ofChange mixSamplesSpec)

/-- ITS FALSE NEIGHBOUR: 'it returns false'. Refute it at one input. -/
def mixSamplesWrong : ChangeSpec := { name := "mixSamples", fn := fun _ => fun
  | [d1, d2, d3] => { results := [.lit (.bool false)], args := [d1, d2, d3] }
  | _ => none }
def MixSamplesWrongFalsely : Prop := mixSamplesRow.holds Try.pinned (OpenSpec.ofChange mixSamplesWrong)

/-- 'bellhoplaw12.MixBounds': WHATEVER THE INPUT: true; the input reads as it did. -/
def mixBoundsSpec : ChangeSpec := { name := "mixBounds", fn := fun _ => fun
  | [d1, d2, d3] => { results := [.lit (.bool true)], args := [d1, d2, d3] }
  | _ => none }
def mixBoundsRow : OpenClaim := { program := "ytdpnkikaciigoaa", sum := "7de48092bddeea5959446d3d4d2a573319f9e7f807d07d8a8f437974967d46a6", func := "bellhop/bellhoplaw12.MixBounds", spec := "mixBounds", inPlace := ["slices.overlaps[int]"], unfollowed := true, recurses := true, apart := false }
def MixBoundsSaid : Prop := mixBoundsRow.holds Try.pinned (OpenSpec.ofChange mixBoundsSpec)

/-- ITS FALSE NEIGHBOUR: 'it returns false'. Refute it at one input. -/
def mixBoundsWrong : ChangeSpec := { name := "mixBounds", fn := fun _ => fun
  | [d1, d2, d3] => { results := [.lit (.bool false)], args := [d1, d2, d3] }
  | _ => none }
def MixBoundsWrongFalsely : Prop := mixBoundsRow.holds Try.pinned (OpenSpec.ofChange mixBoundsWrong)

/-- 'bellhoplaw13.OverlayGood': WHATEVER THE INPUT: true; the input reads as it did. -/
def overlayGoodSpec : ChangeSpec := { name := "overlayGood", fn := fun _ => fun
  | [d1, d2, d3] => { results := [.lit (.bool true)], args := [d1, d2, d3] }
  | _ => none }
def overlayGoodRow : OpenClaim := { program := "ytdpnkikaciigoaa", sum := "7de48092bddeea5959446d3d4d2a573319f9e7f807d07d8a8f437974967d46a6", func := "bellhop/bellhoplaw13.OverlayGood", spec := "overlayGood", inPlace := ["slices.overlaps[int]"], unfollowed := true, recurses := true, apart := false }
def OverlayGoodSaid : Prop := overlayGoodRow.holds Try.pinned (OpenSpec.ofChange overlayGoodSpec)

/-- ITS FALSE NEIGHBOUR: 'it returns false'. Refute it at one input. -/
def overlayGoodWrong : ChangeSpec := { name := "overlayGood", fn := fun _ => fun
  | [d1, d2, d3] => { results := [.lit (.bool false)], args := [d1, d2, d3] }
  | _ => none }
def OverlayGoodWrongFalsely : Prop := overlayGoodRow.holds Try.pinned (OpenSpec.ofChange overlayGoodWrong)

/-- 'bellhoplaw11.HandShakes': WHATEVER THE INPUT: true; the input reads as it did. -/
def handShakesSpec : ChangeSpec := { name := "handShakes", fn := fun _ => fun
  | [d] => { results := [.lit (.bool true)], args := [d] }
  | _ => none }
def handShakesRow : OpenClaim := { program := "ytdpnkikaciigoaa", sum := "7de48092bddeea5959446d3d4d2a573319f9e7f807d07d8a8f437974967d46a6", func := "bellhop/bellhoplaw11.HandShakes", spec := "handShakes", inPlace := ["slices.overlaps[int]"], apart := false }
def HandShakesSaid : Prop := handShakesRow.holds Try.pinned (OpenSpec.ofChange handShakesSpec)

/-- ITS FALSE NEIGHBOUR: 'it returns false'. Refute it at one input. -/
def handShakesWrong : ChangeSpec := { name := "handShakes", fn := fun _ => fun
  | [d] => { results := [.lit (.bool false)], args := [d] }
  | _ => none }
def HandShakesWrongFalsely : Prop := handShakesRow.holds Try.pinned (OpenSpec.ofChange handShakesWrong)

/-- 'bellhoplaw11.HandPairs': WHATEVER THE INPUT: true; the input reads as it did. -/
def handPairsSpec : ChangeSpec := { name := "handPairs", fn := fun _ => fun
  | [d1, d2, d3] => { results := [.lit (.bool true)], args := [d1, d2, d3] }
  | _ => none }
def handPairsRow : OpenClaim := { program := "ytdpnkikaciigoaa", sum := "7de48092bddeea5959446d3d4d2a573319f9e7f807d07d8a8f437974967d46a6", func := "bellhop/bellhoplaw11.HandPairs", spec := "handPairs", inPlace := ["slices.overlaps[int]"], apart := false }
def HandPairsSaid : Prop := handPairsRow.holds Try.pinned (OpenSpec.ofChange handPairsSpec)

/-- ITS FALSE NEIGHBOUR: 'it returns false'. Refute it at one input. -/
def handPairsWrong : ChangeSpec := { name := "handPairs", fn := fun _ => fun
  | [d1, d2, d3] => { results := [.lit (.bool false)], args := [d1, d2, d3] }
  | _ => none }
def HandPairsWrongFalsely : Prop := handPairsRow.holds Try.pinned (OpenSpec.ofChange handPairsWrong)

/-- 'bellhoplaw12.MixComes': WHATEVER THE INPUT: true; the input reads as it did. -/
def mixComesSpec : ChangeSpec := { name := "mixComes", fn := fun _ => fun
  | [d1, d2, d3] => { results := [.lit (.bool true)], args := [d1, d2, d3] }
  | _ => none }
def mixComesRow : OpenClaim := { program := "ytdpnkikaciigoaa", sum := "7de48092bddeea5959446d3d4d2a573319f9e7f807d07d8a8f437974967d46a6", func := "bellhop/bellhoplaw12.MixComes", spec := "mixComes", inPlace := ["slices.overlaps[int]"], unfollowed := true, recurses := true, apart := false }
def MixComesSaid : Prop := mixComesRow.holds Try.pinned (OpenSpec.ofChange mixComesSpec)

/-- ITS FALSE NEIGHBOUR: 'it returns false'. Refute it at one input. -/
def mixComesWrong : ChangeSpec := { name := "mixComes", fn := fun _ => fun
  | [d1, d2, d3] => { results := [.lit (.bool false)], args := [d1, d2, d3] }
  | _ => none }
def MixComesWrongFalsely : Prop := mixComesRow.holds Try.pinned (OpenSpec.ofChange mixComesWrong)

/-- 'bellhoplaw11.HandPlays': WHATEVER THE INPUT: true; the input reads as it did. -/
def handPlaysSpec : ChangeSpec := { name := "handPlays", fn := fun _ => fun
  | [d1, d2, d3] => { results := [.lit (.bool true)], args := [d1, d2, d3] }
  | _ => none }
def handPlaysRow : OpenClaim := { program := "ytdpnkikaciigoaa", sum := "7de48092bddeea5959446d3d4d2a573319f9e7f807d07d8a8f437974967d46a6", func := "bellhop/bellhoplaw11.HandPlays", spec := "handPlays", inPlace := ["slices.overlaps[int]"], unfollowed := true, recurses := true, apart := false }
def HandPlaysSaid : Prop := handPlaysRow.holds Try.pinned (OpenSpec.ofChange handPlaysSpec)

/-- ITS FALSE NEIGHBOUR: 'it returns false'. Refute it at one input. -/
def handPlaysWrong : ChangeSpec := { name := "handPlays", fn := fun _ => fun
  | [d1, d2, d3] => { results := [.lit (.bool false)], args := [d1, d2, d3] }
  | _ => none }
def HandPlaysWrongFalsely : Prop := handPlaysRow.holds Try.pinned (OpenSpec.ofChange handPlaysWrong)

/- THE SECOND FORM. 'bulk': how many values and letters a reading holds, each counted each time it is reached (what is shared counts as often as it is met; a slice's spare places count too). A statement '..UptoSaid' is the law's where the arguments, and the package variables that the reading takes, are together of bulk at most 1048576: NARROWER than '..Said'. Prove '..Said' where nothing that the law and all that it calls make is longer than what came in: it says more and counts as full. Else prove '..UptoSaid'. A law counts once. -/
mutual
def uptoBulk {H : Type} : DataW H → Nat
  | .lit (.string bytes) => bytes.length + 1
  | .lit _ => 1
  | .nil => 1
  | .ptr d => uptoBulk d + 1
  | .slice elems spare => uptoBulkAll elems + uptoBulkAll spare + 1
  | .agg parts => uptoBulkAll parts + 1
  | .iface _ d => uptoBulk d + 1
  | .map entries => uptoBulkEntries entries + 1
  | .held _ => 1
def uptoBulkAll {H : Type} : List (DataW H) → Nat
  | [] => 0
  | d :: r => uptoBulk d + uptoBulkAll r
def uptoBulkEntries {H : Type} : List (Lit × DataW H) → Nat
  | [] => 0
  | x :: r => uptoBulkEntry x + uptoBulkEntries r
def uptoBulkEntry {H : Type} : Lit × DataW H → Nat
  | (.string bytes, d) => bytes.length + uptoBulk d + 1
  | (_, d) => uptoBulk d + 1
 end
def uptoSmall : (H : Type) → List (DataW H) → Bool := fun _ ds => decide (uptoBulkAll ds ≤ 1048576)
def OpenSpec.upto (s : _root_.Go.ChangeSpec) : _root_.Go.OpenSpec := { _root_.Go.OpenSpec.ofChange s with cond := some uptoSmall }

/-- 'bellhoplaw10.WalkSteps', WHERE WHAT IT READS IS OF BULK AT MOST 1048576: true; the input reads as it did. -/
def walkStepsUptoRow : OpenClaim := { program := "ytdpnkikaciigoaa", sum := "7de48092bddeea5959446d3d4d2a573319f9e7f807d07d8a8f437974967d46a6", func := "bellhop/bellhoplaw10.WalkSteps", spec := "walkSteps", inPlace := ["slices.overlaps[int]"], unfollowed := true, recurses := true, apart := false, narrowed := true }
def WalkStepsUptoSaid : Prop := walkStepsUptoRow.holds Try.pinned (OpenSpec.upto walkStepsSpec)

/-- 'bellhoplaw09.ViewSane', WHERE WHAT IT READS IS OF BULK AT MOST 1048576: true; the input reads as it did. -/
def viewSaneUptoRow : OpenClaim := { program := "ytdpnkikaciigoaa", sum := "7de48092bddeea5959446d3d4d2a573319f9e7f807d07d8a8f437974967d46a6", func := "bellhop/bellhoplaw09.ViewSane", spec := "viewSane", inPlace := ["slices.overlaps[int]"], unfollowed := true, recurses := true, apart := false, narrowed := true }
def ViewSaneUptoSaid : Prop := viewSaneUptoRow.holds Try.pinned (OpenSpec.upto viewSaneSpec)

/-- 'bellhoplaw09.ViewPlays', WHERE WHAT IT READS IS OF BULK AT MOST 1048576: true; the input reads as it did. -/
def viewPlaysUptoRow : OpenClaim := { program := "ytdpnkikaciigoaa", sum := "7de48092bddeea5959446d3d4d2a573319f9e7f807d07d8a8f437974967d46a6", func := "bellhop/bellhoplaw09.ViewPlays", spec := "viewPlays", inPlace := ["slices.overlaps[int]"], unfollowed := true, recurses := true, apart := false, narrowed := true }
def ViewPlaysUptoSaid : Prop := viewPlaysUptoRow.holds Try.pinned (OpenSpec.upto viewPlaysSpec)

/-- 'bellhoplaw09.ViewEvicts', WHERE WHAT IT READS IS OF BULK AT MOST 1048576: true; the input reads as it did. -/
def viewEvictsUptoRow : OpenClaim := { program := "ytdpnkikaciigoaa", sum := "7de48092bddeea5959446d3d4d2a573319f9e7f807d07d8a8f437974967d46a6", func := "bellhop/bellhoplaw09.ViewEvicts", spec := "viewEvicts", inPlace := ["slices.overlaps[int]"], unfollowed := true, recurses := true, apart := false, narrowed := true }
def ViewEvictsUptoSaid : Prop := viewEvictsUptoRow.holds Try.pinned (OpenSpec.upto viewEvictsSpec)

/-- 'bellhoplaw10.WalkEnds', WHERE WHAT IT READS IS OF BULK AT MOST 1048576: true; the input reads as it did. -/
def walkEndsUptoRow : OpenClaim := { program := "ytdpnkikaciigoaa", sum := "7de48092bddeea5959446d3d4d2a573319f9e7f807d07d8a8f437974967d46a6", func := "bellhop/bellhoplaw10.WalkEnds", spec := "walkEnds", inPlace := ["slices.overlaps[int]"], unfollowed := true, recurses := true, apart := false, narrowed := true }
def WalkEndsUptoSaid : Prop := walkEndsUptoRow.holds Try.pinned (OpenSpec.upto walkEndsSpec)

/-- 'bellhoplaw12.MixSamples', WHERE WHAT IT READS IS OF BULK AT MOST 1048576: true; the input reads as it did. -/
def mixSamplesUptoRow : OpenClaim := { program := "ytdpnkikaciigoaa", sum := "7de48092bddeea5959446d3d4d2a573319f9e7f807d07d8a8f437974967d46a6", func := "bellhop/bellhoplaw12.MixSamples", spec := "mixSamples", inPlace := ["slices.overlaps[int]"], apart := false, narrowed := true }
def MixSamplesUptoSaid : Prop := mixSamplesUptoRow.holds Try.pinned (OpenSpec.upto mixSamplesSpec)

/-- 'bellhoplaw12.MixBounds', WHERE WHAT IT READS IS OF BULK AT MOST 1048576: true; the input reads as it did. -/
def mixBoundsUptoRow : OpenClaim := { program := "ytdpnkikaciigoaa", sum := "7de48092bddeea5959446d3d4d2a573319f9e7f807d07d8a8f437974967d46a6", func := "bellhop/bellhoplaw12.MixBounds", spec := "mixBounds", inPlace := ["slices.overlaps[int]"], unfollowed := true, recurses := true, apart := false, narrowed := true }
def MixBoundsUptoSaid : Prop := mixBoundsUptoRow.holds Try.pinned (OpenSpec.upto mixBoundsSpec)

/-- 'bellhoplaw13.OverlayGood', WHERE WHAT IT READS IS OF BULK AT MOST 1048576: true; the input reads as it did. -/
def overlayGoodUptoRow : OpenClaim := { program := "ytdpnkikaciigoaa", sum := "7de48092bddeea5959446d3d4d2a573319f9e7f807d07d8a8f437974967d46a6", func := "bellhop/bellhoplaw13.OverlayGood", spec := "overlayGood", inPlace := ["slices.overlaps[int]"], unfollowed := true, recurses := true, apart := false, narrowed := true }
def OverlayGoodUptoSaid : Prop := overlayGoodUptoRow.holds Try.pinned (OpenSpec.upto overlayGoodSpec)

/-- 'bellhoplaw11.HandShakes', WHERE WHAT IT READS IS OF BULK AT MOST 1048576: true; the input reads as it did. -/
def handShakesUptoRow : OpenClaim := { program := "ytdpnkikaciigoaa", sum := "7de48092bddeea5959446d3d4d2a573319f9e7f807d07d8a8f437974967d46a6", func := "bellhop/bellhoplaw11.HandShakes", spec := "handShakes", inPlace := ["slices.overlaps[int]"], apart := false, narrowed := true }
def HandShakesUptoSaid : Prop := handShakesUptoRow.holds Try.pinned (OpenSpec.upto handShakesSpec)

/-- 'bellhoplaw11.HandPairs', WHERE WHAT IT READS IS OF BULK AT MOST 1048576: true; the input reads as it did. -/
def handPairsUptoRow : OpenClaim := { program := "ytdpnkikaciigoaa", sum := "7de48092bddeea5959446d3d4d2a573319f9e7f807d07d8a8f437974967d46a6", func := "bellhop/bellhoplaw11.HandPairs", spec := "handPairs", inPlace := ["slices.overlaps[int]"], apart := false, narrowed := true }
def HandPairsUptoSaid : Prop := handPairsUptoRow.holds Try.pinned (OpenSpec.upto handPairsSpec)

/-- 'bellhoplaw12.MixComes', WHERE WHAT IT READS IS OF BULK AT MOST 1048576: true; the input reads as it did. -/
def mixComesUptoRow : OpenClaim := { program := "ytdpnkikaciigoaa", sum := "7de48092bddeea5959446d3d4d2a573319f9e7f807d07d8a8f437974967d46a6", func := "bellhop/bellhoplaw12.MixComes", spec := "mixComes", inPlace := ["slices.overlaps[int]"], unfollowed := true, recurses := true, apart := false, narrowed := true }
def MixComesUptoSaid : Prop := mixComesUptoRow.holds Try.pinned (OpenSpec.upto mixComesSpec)

/-- 'bellhoplaw11.HandPlays', WHERE WHAT IT READS IS OF BULK AT MOST 1048576: true; the input reads as it did. -/
def handPlaysUptoRow : OpenClaim := { program := "ytdpnkikaciigoaa", sum := "7de48092bddeea5959446d3d4d2a573319f9e7f807d07d8a8f437974967d46a6", func := "bellhop/bellhoplaw11.HandPlays", spec := "handPlays", inPlace := ["slices.overlaps[int]"], unfollowed := true, recurses := true, apart := false, narrowed := true }
def HandPlaysUptoSaid : Prop := handPlaysUptoRow.holds Try.pinned (OpenSpec.upto handPlaysSpec)

end Rows
end Go.Proofs.Ytdpnkikaciigoaa
