/-
  No cell of these rows narrows 'for every input' (looked for: loops, veiled, ifaces, maps, wideKeys, modest, calm, conditions, laid).
  DERIVED. THE GIVEN ROWS OF THIS SEAT. 16 by the template 'for every input the law returns true; each argument reads behind the call as it read before'; 0 by the template 'total and deterministic' (their statements: YtahdgiaddhoaoaaTotals.lean).
  GIVEN WITH THE SEED: the statements are not yours to turn. If you find one false, say at which input.
  Laid BY PROGRAM, IN A SANDBOX (cutbox-rows.mjs): the forced cells as the released guide's own fill.sh prints them over the translation 3e54b719d738b875… (all of the seat's roots in one cut). By AI agents, Wed Nov 11 2026. No macro, syntax, notation, axiom, sorry.
-/
import Derived.Test.YtahdgiaddhoaoaaChecked
import GoSem.Claim
import GoSem.ClaimJoined
import GoSem.ClaimMapViews
import Derived.JoinedTies
import Derived.KernelRfl
namespace Go.Proofs.Ytahdgiaddhoaoaa
/- THE CELL 'sum', in the pinned program and in every row, IS THE sha256 OF THE DUMP (.gsa) THAT YtahdgiaddhoaoaaProg.lean LOADS. Nothing in Lean hashes anything: it is a label: what it is worth is what the hold of that sum in a sandbox is worth. -/
noncomputable def Try.pinned : Pinned := { name := "ytahdgiaddhoaoaa", sum := "3e54b719d738b875dfb1b5a9326962877eea8ed74f07721ff24555f78b0a7790", checked := Try.checked }
namespace Rows
def none {H : Type} : Left H := { results := [], args := [] }

/-- 'laws.FnWithdrawals': WHATEVER THE INPUT: true; the input reads as it did. -/
def fnWithdrawalsSpec : ChangeSpec := { name := "fnWithdrawals", fn := fun _ => fun
  | [d] => { results := [.lit (.bool true)], args := [d] }
  | _ => none }
def fnWithdrawalsRow : OpenClaim := { program := "ytahdgiaddhoaoaa", sum := "3e54b719d738b875dfb1b5a9326962877eea8ed74f07721ff24555f78b0a7790", func := "loop.example/g00834/laws.FnWithdrawals", spec := "fnWithdrawals", unfollowed := true, recurses := true, apart := false }
def FnWithdrawalsSaid : Prop := fnWithdrawalsRow.holds Try.pinned (OpenSpec.ofChange fnWithdrawalsSpec)

/-- ITS FALSE NEIGHBOUR: 'it returns false'. Refute it at one input. -/
def fnWithdrawalsWrong : ChangeSpec := { name := "fnWithdrawals", fn := fun _ => fun
  | [d] => { results := [.lit (.bool false)], args := [d] }
  | _ => none }
def FnWithdrawalsWrongFalsely : Prop := fnWithdrawalsRow.holds Try.pinned (OpenSpec.ofChange fnWithdrawalsWrong)

/-- 'laws.FnPublic': WHATEVER THE INPUT: true; the input reads as it did. -/
def fnPublicSpec : ChangeSpec := { name := "fnPublic", fn := fun _ => fun
  | [d] => { results := [.lit (.bool true)], args := [d] }
  | _ => none }
def fnPublicRow : OpenClaim := { program := "ytahdgiaddhoaoaa", sum := "3e54b719d738b875dfb1b5a9326962877eea8ed74f07721ff24555f78b0a7790", func := "loop.example/g00834/laws.FnPublic", spec := "fnPublic", inPlace := ["internal/abi.NoEscape", "internal/bytealg.MakeNoZero"], unfollowed := true, recurses := true, apart := false }
def FnPublicSaid : Prop := fnPublicRow.holds Try.pinned (OpenSpec.ofChange fnPublicSpec)

/-- ITS FALSE NEIGHBOUR: 'it returns false'. Refute it at one input. -/
def fnPublicWrong : ChangeSpec := { name := "fnPublic", fn := fun _ => fun
  | [d] => { results := [.lit (.bool false)], args := [d] }
  | _ => none }
def FnPublicWrongFalsely : Prop := fnPublicRow.holds Try.pinned (OpenSpec.ofChange fnPublicWrong)

/-- 'laws.FnExactGroupLine': WHATEVER THE INPUT: true; the input reads as it did. -/
def fnExactGroupLineSpec : ChangeSpec := { name := "fnExactGroupLine", fn := fun _ => fun
  | [d1, d2, d3] => { results := [.lit (.bool true)], args := [d1, d2, d3] }
  | _ => none }
def fnExactGroupLineRow : OpenClaim := { program := "ytahdgiaddhoaoaa", sum := "3e54b719d738b875dfb1b5a9326962877eea8ed74f07721ff24555f78b0a7790", func := "loop.example/g00834/laws.FnExactGroupLine", spec := "fnExactGroupLine", inPlace := ["internal/abi.NoEscape", "internal/bytealg.MakeNoZero"], unfollowed := true, recurses := true, apart := false }
def FnExactGroupLineSaid : Prop := fnExactGroupLineRow.holds Try.pinned (OpenSpec.ofChange fnExactGroupLineSpec)

/-- ITS FALSE NEIGHBOUR: 'it returns false'. Refute it at one input. -/
def fnExactGroupLineWrong : ChangeSpec := { name := "fnExactGroupLine", fn := fun _ => fun
  | [d1, d2, d3] => { results := [.lit (.bool false)], args := [d1, d2, d3] }
  | _ => none }
def FnExactGroupLineWrongFalsely : Prop := fnExactGroupLineRow.holds Try.pinned (OpenSpec.ofChange fnExactGroupLineWrong)

/-- 'laws.FnLeadOpen': WHATEVER THE INPUT: true; the input reads as it did. -/
def fnLeadOpenSpec : ChangeSpec := { name := "fnLeadOpen", fn := fun _ => fun
  | [d] => { results := [.lit (.bool true)], args := [d] }
  | _ => none }
def fnLeadOpenRow : OpenClaim := { program := "ytahdgiaddhoaoaa", sum := "3e54b719d738b875dfb1b5a9326962877eea8ed74f07721ff24555f78b0a7790", func := "loop.example/g00834/laws.FnLeadOpen", spec := "fnLeadOpen", unfollowed := true, recurses := true, apart := false }
def FnLeadOpenSaid : Prop := fnLeadOpenRow.holds Try.pinned (OpenSpec.ofChange fnLeadOpenSpec)

/-- ITS FALSE NEIGHBOUR: 'it returns false'. Refute it at one input. -/
def fnLeadOpenWrong : ChangeSpec := { name := "fnLeadOpen", fn := fun _ => fun
  | [d] => { results := [.lit (.bool false)], args := [d] }
  | _ => none }
def FnLeadOpenWrongFalsely : Prop := fnLeadOpenRow.holds Try.pinned (OpenSpec.ofChange fnLeadOpenWrong)

/-- 'laws.FnExactOrderMatters': WHATEVER THE INPUT: true; the input reads as it did. -/
def fnExactOrderMattersSpec : ChangeSpec := { name := "fnExactOrderMatters", fn := fun _ => fun
  | [d1, d2, d3] => { results := [.lit (.bool true)], args := [d1, d2, d3] }
  | _ => none }
def fnExactOrderMattersRow : OpenClaim := { program := "ytahdgiaddhoaoaa", sum := "3e54b719d738b875dfb1b5a9326962877eea8ed74f07721ff24555f78b0a7790", func := "loop.example/g00834/laws.FnExactOrderMatters", spec := "fnExactOrderMatters", unfollowed := true, recurses := true, apart := false }
def FnExactOrderMattersSaid : Prop := fnExactOrderMattersRow.holds Try.pinned (OpenSpec.ofChange fnExactOrderMattersSpec)

/-- ITS FALSE NEIGHBOUR: 'it returns false'. Refute it at one input. -/
def fnExactOrderMattersWrong : ChangeSpec := { name := "fnExactOrderMatters", fn := fun _ => fun
  | [d1, d2, d3] => { results := [.lit (.bool false)], args := [d1, d2, d3] }
  | _ => none }
def FnExactOrderMattersWrongFalsely : Prop := fnExactOrderMattersRow.holds Try.pinned (OpenSpec.ofChange fnExactOrderMattersWrong)

/-- 'laws.FnDependents': WHATEVER THE INPUT: true; the input reads as it did. -/
def fnDependentsSpec : ChangeSpec := { name := "fnDependents", fn := fun _ => fun
  | [d] => { results := [.lit (.bool true)], args := [d] }
  | _ => none }
def fnDependentsRow : OpenClaim := { program := "ytahdgiaddhoaoaa", sum := "3e54b719d738b875dfb1b5a9326962877eea8ed74f07721ff24555f78b0a7790", func := "loop.example/g00834/laws.FnDependents", spec := "fnDependents", inPlace := ["slices.overlaps[[]int]"], unfollowed := true, recurses := true, apart := false }
def FnDependentsSaid : Prop := fnDependentsRow.holds Try.pinned (OpenSpec.ofChange fnDependentsSpec)

/-- ITS FALSE NEIGHBOUR: 'it returns false'. Refute it at one input. -/
def fnDependentsWrong : ChangeSpec := { name := "fnDependents", fn := fun _ => fun
  | [d] => { results := [.lit (.bool false)], args := [d] }
  | _ => none }
def FnDependentsWrongFalsely : Prop := fnDependentsRow.holds Try.pinned (OpenSpec.ofChange fnDependentsWrong)

/-- 'laws.FnProtests': WHATEVER THE INPUT: true; the input reads as it did. -/
def fnProtestsSpec : ChangeSpec := { name := "fnProtests", fn := fun _ => fun
  | [d] => { results := [.lit (.bool true)], args := [d] }
  | _ => none }
def fnProtestsRow : OpenClaim := { program := "ytahdgiaddhoaoaa", sum := "3e54b719d738b875dfb1b5a9326962877eea8ed74f07721ff24555f78b0a7790", func := "loop.example/g00834/laws.FnProtests", spec := "fnProtests", inPlace := ["slices.overlaps[[]int]"], unfollowed := true, recurses := true, apart := false }
def FnProtestsSaid : Prop := fnProtestsRow.holds Try.pinned (OpenSpec.ofChange fnProtestsSpec)

/-- ITS FALSE NEIGHBOUR: 'it returns false'. Refute it at one input. -/
def fnProtestsWrong : ChangeSpec := { name := "fnProtests", fn := fun _ => fun
  | [d] => { results := [.lit (.bool false)], args := [d] }
  | _ => none }
def FnProtestsWrongFalsely : Prop := fnProtestsRow.holds Try.pinned (OpenSpec.ofChange fnProtestsWrong)

/-- 'laws.FnWeights': WHATEVER THE INPUT: true; the input reads as it did. -/
def fnWeightsSpec : ChangeSpec := { name := "fnWeights", fn := fun _ => fun
  | [d] => { results := [.lit (.bool true)], args := [d] }
  | _ => none }
def fnWeightsRow : OpenClaim := { program := "ytahdgiaddhoaoaa", sum := "3e54b719d738b875dfb1b5a9326962877eea8ed74f07721ff24555f78b0a7790", func := "loop.example/g00834/laws.FnWeights", spec := "fnWeights", inPlace := ["slices.overlaps[[]int]"], unfollowed := true, recurses := true, apart := false }
def FnWeightsSaid : Prop := fnWeightsRow.holds Try.pinned (OpenSpec.ofChange fnWeightsSpec)

/-- ITS FALSE NEIGHBOUR: 'it returns false'. Refute it at one input. -/
def fnWeightsWrong : ChangeSpec := { name := "fnWeights", fn := fun _ => fun
  | [d] => { results := [.lit (.bool false)], args := [d] }
  | _ => none }
def FnWeightsWrongFalsely : Prop := fnWeightsRow.holds Try.pinned (OpenSpec.ofChange fnWeightsWrong)

/-- 'laws.FnTempted': WHATEVER THE INPUT: true; the input reads as it did. -/
def fnTemptedSpec : ChangeSpec := { name := "fnTempted", fn := fun _ => fun
  | [d] => { results := [.lit (.bool true)], args := [d] }
  | _ => none }
def fnTemptedRow : OpenClaim := { program := "ytahdgiaddhoaoaa", sum := "3e54b719d738b875dfb1b5a9326962877eea8ed74f07721ff24555f78b0a7790", func := "loop.example/g00834/laws.FnTempted", spec := "fnTempted", inPlace := ["slices.overlaps[[]int]"], unfollowed := true, recurses := true, apart := false }
def FnTemptedSaid : Prop := fnTemptedRow.holds Try.pinned (OpenSpec.ofChange fnTemptedSpec)

/-- ITS FALSE NEIGHBOUR: 'it returns false'. Refute it at one input. -/
def fnTemptedWrong : ChangeSpec := { name := "fnTempted", fn := fun _ => fun
  | [d] => { results := [.lit (.bool false)], args := [d] }
  | _ => none }
def FnTemptedWrongFalsely : Prop := fnTemptedRow.holds Try.pinned (OpenSpec.ofChange fnTemptedWrong)

/-- 'laws.FnLeads': WHATEVER THE INPUT: true; the input reads as it did. -/
def fnLeadsSpec : ChangeSpec := { name := "fnLeads", fn := fun _ => fun
  | [d] => { results := [.lit (.bool true)], args := [d] }
  | _ => none }
def fnLeadsRow : OpenClaim := { program := "ytahdgiaddhoaoaa", sum := "3e54b719d738b875dfb1b5a9326962877eea8ed74f07721ff24555f78b0a7790", func := "loop.example/g00834/laws.FnLeads", spec := "fnLeads", inPlace := ["internal/abi.NoEscape", "internal/bytealg.MakeNoZero"], unfollowed := true, recurses := true, apart := false }
def FnLeadsSaid : Prop := fnLeadsRow.holds Try.pinned (OpenSpec.ofChange fnLeadsSpec)

/-- ITS FALSE NEIGHBOUR: 'it returns false'. Refute it at one input. -/
def fnLeadsWrong : ChangeSpec := { name := "fnLeads", fn := fun _ => fun
  | [d] => { results := [.lit (.bool false)], args := [d] }
  | _ => none }
def FnLeadsWrongFalsely : Prop := fnLeadsRow.holds Try.pinned (OpenSpec.ofChange fnLeadsWrong)

/-- 'laws.FnExactAddRace': WHATEVER THE INPUT: true; the input reads as it did. -/
def fnExactAddRaceSpec : ChangeSpec := { name := "fnExactAddRace", fn := fun _ => fun
  | [d1, d2] => { results := [.lit (.bool true)], args := [d1, d2] }
  | _ => none }
def fnExactAddRaceRow : OpenClaim := { program := "ytahdgiaddhoaoaa", sum := "3e54b719d738b875dfb1b5a9326962877eea8ed74f07721ff24555f78b0a7790", func := "loop.example/g00834/laws.FnExactAddRace", spec := "fnExactAddRace", unfollowed := true, recurses := true, apart := false }
def FnExactAddRaceSaid : Prop := fnExactAddRaceRow.holds Try.pinned (OpenSpec.ofChange fnExactAddRaceSpec)

/-- ITS FALSE NEIGHBOUR: 'it returns false'. Refute it at one input. -/
def fnExactAddRaceWrong : ChangeSpec := { name := "fnExactAddRace", fn := fun _ => fun
  | [d1, d2] => { results := [.lit (.bool false)], args := [d1, d2] }
  | _ => none }
def FnExactAddRaceWrongFalsely : Prop := fnExactAddRaceRow.holds Try.pinned (OpenSpec.ofChange fnExactAddRaceWrong)

/-- 'laws.FnExactWithdraw': WHATEVER THE INPUT: true; the input reads as it did. -/
def fnExactWithdrawSpec : ChangeSpec := { name := "fnExactWithdraw", fn := fun _ => fun
  | [d1, d2, d3] => { results := [.lit (.bool true)], args := [d1, d2, d3] }
  | _ => none }
def fnExactWithdrawRow : OpenClaim := { program := "ytahdgiaddhoaoaa", sum := "3e54b719d738b875dfb1b5a9326962877eea8ed74f07721ff24555f78b0a7790", func := "loop.example/g00834/laws.FnExactWithdraw", spec := "fnExactWithdraw", unfollowed := true, recurses := true, apart := false }
def FnExactWithdrawSaid : Prop := fnExactWithdrawRow.holds Try.pinned (OpenSpec.ofChange fnExactWithdrawSpec)

/-- ITS FALSE NEIGHBOUR: 'it returns false'. Refute it at one input. -/
def fnExactWithdrawWrong : ChangeSpec := { name := "fnExactWithdraw", fn := fun _ => fun
  | [d1, d2, d3] => { results := [.lit (.bool false)], args := [d1, d2, d3] }
  | _ => none }
def FnExactWithdrawWrongFalsely : Prop := fnExactWithdrawRow.holds Try.pinned (OpenSpec.ofChange fnExactWithdrawWrong)

/-- 'laws.FnExactDecide': WHATEVER THE INPUT: true; the input reads as it did. -/
def fnExactDecideSpec : ChangeSpec := { name := "fnExactDecide", fn := fun _ => fun
  | [d1, d2] => { results := [.lit (.bool true)], args := [d1, d2] }
  | _ => none }
def fnExactDecideRow : OpenClaim := { program := "ytahdgiaddhoaoaa", sum := "3e54b719d738b875dfb1b5a9326962877eea8ed74f07721ff24555f78b0a7790", func := "loop.example/g00834/laws.FnExactDecide", spec := "fnExactDecide", unfollowed := true, recurses := true, apart := false }
def FnExactDecideSaid : Prop := fnExactDecideRow.holds Try.pinned (OpenSpec.ofChange fnExactDecideSpec)

/-- ITS FALSE NEIGHBOUR: 'it returns false'. Refute it at one input. -/
def fnExactDecideWrong : ChangeSpec := { name := "fnExactDecide", fn := fun _ => fun
  | [d1, d2] => { results := [.lit (.bool false)], args := [d1, d2] }
  | _ => none }
def FnExactDecideWrongFalsely : Prop := fnExactDecideRow.holds Try.pinned (OpenSpec.ofChange fnExactDecideWrong)

/-- 'laws.FnExactPointsLost': WHATEVER THE INPUT: true; the input reads as it did. -/
def fnExactPointsLostSpec : ChangeSpec := { name := "fnExactPointsLost", fn := fun _ => fun
  | [d1, d2, d3] => { results := [.lit (.bool true)], args := [d1, d2, d3] }
  | _ => none }
def fnExactPointsLostRow : OpenClaim := { program := "ytahdgiaddhoaoaa", sum := "3e54b719d738b875dfb1b5a9326962877eea8ed74f07721ff24555f78b0a7790", func := "loop.example/g00834/laws.FnExactPointsLost", spec := "fnExactPointsLost", unfollowed := true, recurses := true, apart := false }
def FnExactPointsLostSaid : Prop := fnExactPointsLostRow.holds Try.pinned (OpenSpec.ofChange fnExactPointsLostSpec)

/-- ITS FALSE NEIGHBOUR: 'it returns false'. Refute it at one input. -/
def fnExactPointsLostWrong : ChangeSpec := { name := "fnExactPointsLost", fn := fun _ => fun
  | [d1, d2, d3] => { results := [.lit (.bool false)], args := [d1, d2, d3] }
  | _ => none }
def FnExactPointsLostWrongFalsely : Prop := fnExactPointsLostRow.holds Try.pinned (OpenSpec.ofChange fnExactPointsLostWrong)

/-- 'laws.FnExactCheckLead': WHATEVER THE INPUT: true; the input reads as it did. -/
def fnExactCheckLeadSpec : ChangeSpec := { name := "fnExactCheckLead", fn := fun _ => fun
  | [d1, d2, d3] => { results := [.lit (.bool true)], args := [d1, d2, d3] }
  | _ => none }
def fnExactCheckLeadRow : OpenClaim := { program := "ytahdgiaddhoaoaa", sum := "3e54b719d738b875dfb1b5a9326962877eea8ed74f07721ff24555f78b0a7790", func := "loop.example/g00834/laws.FnExactCheckLead", spec := "fnExactCheckLead", unfollowed := true, recurses := true, apart := false }
def FnExactCheckLeadSaid : Prop := fnExactCheckLeadRow.holds Try.pinned (OpenSpec.ofChange fnExactCheckLeadSpec)

/-- ITS FALSE NEIGHBOUR: 'it returns false'. Refute it at one input. -/
def fnExactCheckLeadWrong : ChangeSpec := { name := "fnExactCheckLead", fn := fun _ => fun
  | [d1, d2, d3] => { results := [.lit (.bool false)], args := [d1, d2, d3] }
  | _ => none }
def FnExactCheckLeadWrongFalsely : Prop := fnExactCheckLeadRow.holds Try.pinned (OpenSpec.ofChange fnExactCheckLeadWrong)

/-- 'laws.FnRegattas': WHATEVER THE INPUT: true; the input reads as it did. -/
def fnRegattasSpec : ChangeSpec := { name := "fnRegattas", fn := fun _ => fun
  | [d] => { results := [.lit (.bool true)], args := [d] }
  | _ => none }
def fnRegattasRow : OpenClaim := { program := "ytahdgiaddhoaoaa", sum := "3e54b719d738b875dfb1b5a9326962877eea8ed74f07721ff24555f78b0a7790", func := "loop.example/g00834/laws.FnRegattas", spec := "fnRegattas", unfollowed := true, recurses := true, apart := false }
def FnRegattasSaid : Prop := fnRegattasRow.holds Try.pinned (OpenSpec.ofChange fnRegattasSpec)

/-- ITS FALSE NEIGHBOUR: 'it returns false'. Refute it at one input. -/
def fnRegattasWrong : ChangeSpec := { name := "fnRegattas", fn := fun _ => fun
  | [d] => { results := [.lit (.bool false)], args := [d] }
  | _ => none }
def FnRegattasWrongFalsely : Prop := fnRegattasRow.holds Try.pinned (OpenSpec.ofChange fnRegattasWrong)

/- THE SECOND FORM. 'bulk': how many values and letters a reading holds, each counted each time it is reached (what is shared counts as often as it is met; a slice's spare places count too). A statement '..UptoSaid' is the law's where the arguments, and the package variables that the reading takes, are together of bulk at most 1048576: NARROWER than '..Said'. Prove '..Said' where nothing that the law and all that it calls make is longer than what came in: it says more and counts as full. Else prove '..UptoSaid'. A law counts once. -/
mutual
def uptoBulk {H : Type} : DataW H → Nat
  | .lit (.string bytes) => bytes.length + 1
  | .lit _ => 1
  | .nil => 1
  | .ptr d => uptoBulk d + 1
  | .slice elems spare => uptoBulkAll elems + uptoBulkAll spare + 1
  | .agg parts => uptoBulkAll parts + 1
  | .iface _ d => uptoBulk d + 1
  | .map entries => uptoBulkEntries entries + 1
  | .held _ => 1
def uptoBulkAll {H : Type} : List (DataW H) → Nat
  | [] => 0
  | d :: r => uptoBulk d + uptoBulkAll r
def uptoBulkEntries {H : Type} : List (Lit × DataW H) → Nat
  | [] => 0
  | x :: r => uptoBulkEntry x + uptoBulkEntries r
def uptoBulkEntry {H : Type} : Lit × DataW H → Nat
  | (.string bytes, d) => bytes.length + uptoBulk d + 1
  | (_, d) => uptoBulk d + 1
 end
def uptoSmall : (H : Type) → List (DataW H) → Bool := fun _ ds => decide (uptoBulkAll ds ≤ 1048576)
def OpenSpec.upto (s : _root_.Go.ChangeSpec) : _root_.Go.OpenSpec := { _root_.Go.OpenSpec.ofChange s with cond := some uptoSmall }

/-- 'laws.FnWithdrawals', WHERE WHAT IT READS IS OF BULK AT MOST 1048576: true; the input reads as it did. -/
def fnWithdrawalsUptoRow : OpenClaim := { program := "ytahdgiaddhoaoaa", sum := "3e54b719d738b875dfb1b5a9326962877eea8ed74f07721ff24555f78b0a7790", func := "loop.example/g00834/laws.FnWithdrawals", spec := "fnWithdrawals", unfollowed := true, recurses := true, apart := false, narrowed := true }
def FnWithdrawalsUptoSaid : Prop := fnWithdrawalsUptoRow.holds Try.pinned (OpenSpec.upto fnWithdrawalsSpec)

/-- 'laws.FnPublic', WHERE WHAT IT READS IS OF BULK AT MOST 1048576: true; the input reads as it did. -/
def fnPublicUptoRow : OpenClaim := { program := "ytahdgiaddhoaoaa", sum := "3e54b719d738b875dfb1b5a9326962877eea8ed74f07721ff24555f78b0a7790", func := "loop.example/g00834/laws.FnPublic", spec := "fnPublic", inPlace := ["internal/abi.NoEscape", "internal/bytealg.MakeNoZero"], unfollowed := true, recurses := true, apart := false, narrowed := true }
def FnPublicUptoSaid : Prop := fnPublicUptoRow.holds Try.pinned (OpenSpec.upto fnPublicSpec)

/-- 'laws.FnExactGroupLine', WHERE WHAT IT READS IS OF BULK AT MOST 1048576: true; the input reads as it did. -/
def fnExactGroupLineUptoRow : OpenClaim := { program := "ytahdgiaddhoaoaa", sum := "3e54b719d738b875dfb1b5a9326962877eea8ed74f07721ff24555f78b0a7790", func := "loop.example/g00834/laws.FnExactGroupLine", spec := "fnExactGroupLine", inPlace := ["internal/abi.NoEscape", "internal/bytealg.MakeNoZero"], unfollowed := true, recurses := true, apart := false, narrowed := true }
def FnExactGroupLineUptoSaid : Prop := fnExactGroupLineUptoRow.holds Try.pinned (OpenSpec.upto fnExactGroupLineSpec)

/-- 'laws.FnLeadOpen', WHERE WHAT IT READS IS OF BULK AT MOST 1048576: true; the input reads as it did. -/
def fnLeadOpenUptoRow : OpenClaim := { program := "ytahdgiaddhoaoaa", sum := "3e54b719d738b875dfb1b5a9326962877eea8ed74f07721ff24555f78b0a7790", func := "loop.example/g00834/laws.FnLeadOpen", spec := "fnLeadOpen", unfollowed := true, recurses := true, apart := false, narrowed := true }
def FnLeadOpenUptoSaid : Prop := fnLeadOpenUptoRow.holds Try.pinned (OpenSpec.upto fnLeadOpenSpec)

/-- 'laws.FnExactOrderMatters', WHERE WHAT IT READS IS OF BULK AT MOST 1048576: true; the input reads as it did. -/
def fnExactOrderMattersUptoRow : OpenClaim := { program := "ytahdgiaddhoaoaa", sum := "3e54b719d738b875dfb1b5a9326962877eea8ed74f07721ff24555f78b0a7790", func := "loop.example/g00834/laws.FnExactOrderMatters", spec := "fnExactOrderMatters", unfollowed := true, recurses := true, apart := false, narrowed := true }
def FnExactOrderMattersUptoSaid : Prop := fnExactOrderMattersUptoRow.holds Try.pinned (OpenSpec.upto fnExactOrderMattersSpec)

/-- 'laws.FnDependents', WHERE WHAT IT READS IS OF BULK AT MOST 1048576: true; the input reads as it did. -/
def fnDependentsUptoRow : OpenClaim := { program := "ytahdgiaddhoaoaa", sum := "3e54b719d738b875dfb1b5a9326962877eea8ed74f07721ff24555f78b0a7790", func := "loop.example/g00834/laws.FnDependents", spec := "fnDependents", inPlace := ["slices.overlaps[[]int]"], unfollowed := true, recurses := true, apart := false, narrowed := true }
def FnDependentsUptoSaid : Prop := fnDependentsUptoRow.holds Try.pinned (OpenSpec.upto fnDependentsSpec)

/-- 'laws.FnProtests', WHERE WHAT IT READS IS OF BULK AT MOST 1048576: true; the input reads as it did. -/
def fnProtestsUptoRow : OpenClaim := { program := "ytahdgiaddhoaoaa", sum := "3e54b719d738b875dfb1b5a9326962877eea8ed74f07721ff24555f78b0a7790", func := "loop.example/g00834/laws.FnProtests", spec := "fnProtests", inPlace := ["slices.overlaps[[]int]"], unfollowed := true, recurses := true, apart := false, narrowed := true }
def FnProtestsUptoSaid : Prop := fnProtestsUptoRow.holds Try.pinned (OpenSpec.upto fnProtestsSpec)

/-- 'laws.FnWeights', WHERE WHAT IT READS IS OF BULK AT MOST 1048576: true; the input reads as it did. -/
def fnWeightsUptoRow : OpenClaim := { program := "ytahdgiaddhoaoaa", sum := "3e54b719d738b875dfb1b5a9326962877eea8ed74f07721ff24555f78b0a7790", func := "loop.example/g00834/laws.FnWeights", spec := "fnWeights", inPlace := ["slices.overlaps[[]int]"], unfollowed := true, recurses := true, apart := false, narrowed := true }
def FnWeightsUptoSaid : Prop := fnWeightsUptoRow.holds Try.pinned (OpenSpec.upto fnWeightsSpec)

/-- 'laws.FnTempted', WHERE WHAT IT READS IS OF BULK AT MOST 1048576: true; the input reads as it did. -/
def fnTemptedUptoRow : OpenClaim := { program := "ytahdgiaddhoaoaa", sum := "3e54b719d738b875dfb1b5a9326962877eea8ed74f07721ff24555f78b0a7790", func := "loop.example/g00834/laws.FnTempted", spec := "fnTempted", inPlace := ["slices.overlaps[[]int]"], unfollowed := true, recurses := true, apart := false, narrowed := true }
def FnTemptedUptoSaid : Prop := fnTemptedUptoRow.holds Try.pinned (OpenSpec.upto fnTemptedSpec)

/-- 'laws.FnLeads', WHERE WHAT IT READS IS OF BULK AT MOST 1048576: true; the input reads as it did. -/
def fnLeadsUptoRow : OpenClaim := { program := "ytahdgiaddhoaoaa", sum := "3e54b719d738b875dfb1b5a9326962877eea8ed74f07721ff24555f78b0a7790", func := "loop.example/g00834/laws.FnLeads", spec := "fnLeads", inPlace := ["internal/abi.NoEscape", "internal/bytealg.MakeNoZero"], unfollowed := true, recurses := true, apart := false, narrowed := true }
def FnLeadsUptoSaid : Prop := fnLeadsUptoRow.holds Try.pinned (OpenSpec.upto fnLeadsSpec)

/-- 'laws.FnExactAddRace', WHERE WHAT IT READS IS OF BULK AT MOST 1048576: true; the input reads as it did. -/
def fnExactAddRaceUptoRow : OpenClaim := { program := "ytahdgiaddhoaoaa", sum := "3e54b719d738b875dfb1b5a9326962877eea8ed74f07721ff24555f78b0a7790", func := "loop.example/g00834/laws.FnExactAddRace", spec := "fnExactAddRace", unfollowed := true, recurses := true, apart := false, narrowed := true }
def FnExactAddRaceUptoSaid : Prop := fnExactAddRaceUptoRow.holds Try.pinned (OpenSpec.upto fnExactAddRaceSpec)

/-- 'laws.FnExactWithdraw', WHERE WHAT IT READS IS OF BULK AT MOST 1048576: true; the input reads as it did. -/
def fnExactWithdrawUptoRow : OpenClaim := { program := "ytahdgiaddhoaoaa", sum := "3e54b719d738b875dfb1b5a9326962877eea8ed74f07721ff24555f78b0a7790", func := "loop.example/g00834/laws.FnExactWithdraw", spec := "fnExactWithdraw", unfollowed := true, recurses := true, apart := false, narrowed := true }
def FnExactWithdrawUptoSaid : Prop := fnExactWithdrawUptoRow.holds Try.pinned (OpenSpec.upto fnExactWithdrawSpec)

/-- 'laws.FnExactDecide', WHERE WHAT IT READS IS OF BULK AT MOST 1048576: true; the input reads as it did. -/
def fnExactDecideUptoRow : OpenClaim := { program := "ytahdgiaddhoaoaa", sum := "3e54b719d738b875dfb1b5a9326962877eea8ed74f07721ff24555f78b0a7790", func := "loop.example/g00834/laws.FnExactDecide", spec := "fnExactDecide", unfollowed := true, recurses := true, apart := false, narrowed := true }
def FnExactDecideUptoSaid : Prop := fnExactDecideUptoRow.holds Try.pinned (OpenSpec.upto fnExactDecideSpec)

/-- 'laws.FnExactPointsLost', WHERE WHAT IT READS IS OF BULK AT MOST 1048576: true; the input reads as it did. -/
def fnExactPointsLostUptoRow : OpenClaim := { program := "ytahdgiaddhoaoaa", sum := "3e54b719d738b875dfb1b5a9326962877eea8ed74f07721ff24555f78b0a7790", func := "loop.example/g00834/laws.FnExactPointsLost", spec := "fnExactPointsLost", unfollowed := true, recurses := true, apart := false, narrowed := true }
def FnExactPointsLostUptoSaid : Prop := fnExactPointsLostUptoRow.holds Try.pinned (OpenSpec.upto fnExactPointsLostSpec)

/-- 'laws.FnExactCheckLead', WHERE WHAT IT READS IS OF BULK AT MOST 1048576: true; the input reads as it did. -/
def fnExactCheckLeadUptoRow : OpenClaim := { program := "ytahdgiaddhoaoaa", sum := "3e54b719d738b875dfb1b5a9326962877eea8ed74f07721ff24555f78b0a7790", func := "loop.example/g00834/laws.FnExactCheckLead", spec := "fnExactCheckLead", unfollowed := true, recurses := true, apart := false, narrowed := true }
def FnExactCheckLeadUptoSaid : Prop := fnExactCheckLeadUptoRow.holds Try.pinned (OpenSpec.upto fnExactCheckLeadSpec)

/-- 'laws.FnRegattas', WHERE WHAT IT READS IS OF BULK AT MOST 1048576: true; the input reads as it did. -/
def fnRegattasUptoRow : OpenClaim := { program := "ytahdgiaddhoaoaa", sum := "3e54b719d738b875dfb1b5a9326962877eea8ed74f07721ff24555f78b0a7790", func := "loop.example/g00834/laws.FnRegattas", spec := "fnRegattas", unfollowed := true, recurses := true, apart := false, narrowed := true }
def FnRegattasUptoSaid : Prop := fnRegattasUptoRow.holds Try.pinned (OpenSpec.upto fnRegattasSpec)

end Rows
end Go.Proofs.Ytahdgiaddhoaoaa
