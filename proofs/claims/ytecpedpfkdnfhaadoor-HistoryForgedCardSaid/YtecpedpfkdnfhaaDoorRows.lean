/-
  NARROWER THAN 'FOR EVERY INPUT', by the rows' own cells (each row's printed sentence says how): HistoryNodes: laid · HistoryOrders: laid · HistoryRoots: laid · HistoryLengths: laid · HistoryForged: laid · HistoryTapes: laid · HistoryGrows: laid · HistoryTurned: laid · HistoryMore: laid.
  DERIVED. THE GIVEN ROWS OF THIS SEAT. 9 by the template 'for every input the law returns true; each argument reads behind the call as it read before'; 0 by the template 'total and deterministic' (their statements: YtecpedpfkdnfhaaDoorTotals.lean).
  GIVEN WITH THE SEED: the statements are not yours to turn. If you find one false, say at which input.
  Laid BY PROGRAM, IN A SANDBOX (cutbox-rows.mjs): the forced cells as the released guide's own fill.sh prints them over the translation 9afef3922825154f… (all of the seat's roots in one cut). By AI agents, Wed Nov 11 2026. No macro, syntax, notation, axiom, sorry.
-/
import Derived.Test.YtecpedpfkdnfhaaDoorChecked
import GoSem.Claim
import GoSem.ClaimJoined
import GoSem.ClaimMapViews
import Derived.JoinedTies
import Derived.KernelRfl
namespace Go.Proofs.YtecpedpfkdnfhaaDoor
/- THE CELL 'sum', in the pinned program and in every row, IS THE sha256 OF THE DUMP (.gsa) THAT YtecpedpfkdnfhaaDoorProg.lean LOADS. Nothing in Lean hashes anything: it is a label: what it is worth is what the hold of that sum in a sandbox is worth. -/
noncomputable def Tryd.pinned : Pinned := { name := "ytecpedpfkdnfhaadoor", sum := "9afef3922825154fc26e2876b3385cedc4ab2835eb8ae7b11820623a7cf7802a", checked := Tryd.checked }
namespace Rows
def none {H : Type} : Left H := { results := [], args := [] }

/- WHAT THE LISTED PACKAGE-LEVEL VARIABLES READ AS WHEN THE CALL BEGINS. Each datum BY PROGRAM (the guide's laid-datum.mjs) off the statement by which the dump's own 'gosem.cut.vars' lays the variable. In a bare row this is a premise. The card (YtecpedpfkdnfhaaDoorCards.lean) ties it to the program's text. -/
def laid_pacioli_sha_rounds {H : Type} : DataW H := .agg [.lit (.int .u32 1116352408), .lit (.int .u32 1899447441), .lit (.int .u32 3049323471), .lit (.int .u32 3921009573), .lit (.int .u32 961987163), .lit (.int .u32 1508970993), .lit (.int .u32 2453635748), .lit (.int .u32 2870763221), .lit (.int .u32 3624381080), .lit (.int .u32 310598401), .lit (.int .u32 607225278), .lit (.int .u32 1426881987), .lit (.int .u32 1925078388), .lit (.int .u32 2162078206), .lit (.int .u32 2614888103), .lit (.int .u32 3248222580), .lit (.int .u32 3835390401), .lit (.int .u32 4022224774), .lit (.int .u32 264347078), .lit (.int .u32 604807628), .lit (.int .u32 770255983), .lit (.int .u32 1249150122), .lit (.int .u32 1555081692), .lit (.int .u32 1996064986), .lit (.int .u32 2554220882), .lit (.int .u32 2821834349), .lit (.int .u32 2952996808), .lit (.int .u32 3210313671), .lit (.int .u32 3336571891), .lit (.int .u32 3584528711), .lit (.int .u32 113926993), .lit (.int .u32 338241895), .lit (.int .u32 666307205), .lit (.int .u32 773529912), .lit (.int .u32 1294757372), .lit (.int .u32 1396182291), .lit (.int .u32 1695183700), .lit (.int .u32 1986661051), .lit (.int .u32 2177026350), .lit (.int .u32 2456956037), .lit (.int .u32 2730485921), .lit (.int .u32 2820302411), .lit (.int .u32 3259730800), .lit (.int .u32 3345764771), .lit (.int .u32 3516065817), .lit (.int .u32 3600352804), .lit (.int .u32 4094571909), .lit (.int .u32 275423344), .lit (.int .u32 430227734), .lit (.int .u32 506948616), .lit (.int .u32 659060556), .lit (.int .u32 883997877), .lit (.int .u32 958139571), .lit (.int .u32 1322822218), .lit (.int .u32 1537002063), .lit (.int .u32 1747873779), .lit (.int .u32 1955562222), .lit (.int .u32 2024104815), .lit (.int .u32 2227730452), .lit (.int .u32 2361852424), .lit (.int .u32 2428436474), .lit (.int .u32 2756734187), .lit (.int .u32 3204031479), .lit (.int .u32 3329325298)]
def laid_pacioli_sha_start {H : Type} : DataW H := .agg [.lit (.int .u32 1779033703), .lit (.int .u32 3144134277), .lit (.int .u32 1013904242), .lit (.int .u32 2773480762), .lit (.int .u32 1359893119), .lit (.int .u32 2600822924), .lit (.int .u32 528734635), .lit (.int .u32 1541459225)]
def laid_pacioli_history_leafMark {H : Type} : DataW H := .slice [.lit (.int .u8 0)] []
def laid_pacioli_history_nodeMark {H : Type} : DataW H := .slice [.lit (.int .u8 1)] []

/-- 'paciolilaw06.HistoryNodes': WHATEVER THE INPUT: true; the input reads as it did. -/
def historyNodesSpec : ChangeSpec := { name := "historyNodes", fn := fun _ => fun
  | [d1, d2] => { results := [.lit (.bool true)], args := [d1, d2] }
  | _ => none }
def historyNodesRow : OpenClaim := { program := "ytecpedpfkdnfhaadoor", sum := "9afef3922825154fc26e2876b3385cedc4ab2835eb8ae7b11820623a7cf7802a", func := "pacioli/paciolilaw06.HistoryNodes", spec := "historyNodes", recurses := true, named := ["pacioli/history.leafMark", "pacioli/sha.start", "pacioli/sha.rounds", "pacioli/history.nodeMark"], plainKeys := false, apart := false, laid := [("pacioli/sha.rounds", laid_pacioli_sha_rounds), ("pacioli/sha.start", laid_pacioli_sha_start), ("pacioli/history.leafMark", laid_pacioli_history_leafMark), ("pacioli/history.nodeMark", laid_pacioli_history_nodeMark)] }
def HistoryNodesSaid : Prop := historyNodesRow.holds Tryd.pinned (OpenSpec.ofChange historyNodesSpec)

/-- ITS FALSE NEIGHBOUR: 'it returns false'. Refute it at one input. -/
def historyNodesWrong : ChangeSpec := { name := "historyNodes", fn := fun _ => fun
  | [d1, d2] => { results := [.lit (.bool false)], args := [d1, d2] }
  | _ => none }
def HistoryNodesWrongFalsely : Prop := historyNodesRow.holds Tryd.pinned (OpenSpec.ofChange historyNodesWrong)

/-- 'paciolilaw06.HistoryOrders': WHATEVER THE INPUT: true; the input reads as it did. -/
def historyOrdersSpec : ChangeSpec := { name := "historyOrders", fn := fun _ => fun
  | [d1, d2, d3] => { results := [.lit (.bool true)], args := [d1, d2, d3] }
  | _ => none }
def historyOrdersRow : OpenClaim := { program := "ytecpedpfkdnfhaadoor", sum := "9afef3922825154fc26e2876b3385cedc4ab2835eb8ae7b11820623a7cf7802a", func := "pacioli/paciolilaw06.HistoryOrders", spec := "historyOrders", unfollowed := true, recurses := true, named := ["pacioli/history.leafMark", "pacioli/sha.start", "pacioli/sha.rounds", "pacioli/history.nodeMark"], plainKeys := false, apart := false, laid := [("pacioli/sha.rounds", laid_pacioli_sha_rounds), ("pacioli/sha.start", laid_pacioli_sha_start), ("pacioli/history.leafMark", laid_pacioli_history_leafMark), ("pacioli/history.nodeMark", laid_pacioli_history_nodeMark)] }
def HistoryOrdersSaid : Prop := historyOrdersRow.holds Tryd.pinned (OpenSpec.ofChange historyOrdersSpec)

/-- ITS FALSE NEIGHBOUR: 'it returns false'. Refute it at one input. -/
def historyOrdersWrong : ChangeSpec := { name := "historyOrders", fn := fun _ => fun
  | [d1, d2, d3] => { results := [.lit (.bool false)], args := [d1, d2, d3] }
  | _ => none }
def HistoryOrdersWrongFalsely : Prop := historyOrdersRow.holds Tryd.pinned (OpenSpec.ofChange historyOrdersWrong)

/-- 'paciolilaw06.HistoryRoots': WHATEVER THE INPUT: true; the input reads as it did. -/
def historyRootsSpec : ChangeSpec := { name := "historyRoots", fn := fun _ => fun
  | [d1, d2] => { results := [.lit (.bool true)], args := [d1, d2] }
  | _ => none }
def historyRootsRow : OpenClaim := { program := "ytecpedpfkdnfhaadoor", sum := "9afef3922825154fc26e2876b3385cedc4ab2835eb8ae7b11820623a7cf7802a", func := "pacioli/paciolilaw06.HistoryRoots", spec := "historyRoots", recurses := true, named := ["pacioli/history.leafMark", "pacioli/sha.start", "pacioli/sha.rounds", "pacioli/history.nodeMark"], plainKeys := false, apart := false, laid := [("pacioli/sha.rounds", laid_pacioli_sha_rounds), ("pacioli/sha.start", laid_pacioli_sha_start), ("pacioli/history.leafMark", laid_pacioli_history_leafMark), ("pacioli/history.nodeMark", laid_pacioli_history_nodeMark)] }
def HistoryRootsSaid : Prop := historyRootsRow.holds Tryd.pinned (OpenSpec.ofChange historyRootsSpec)

/-- ITS FALSE NEIGHBOUR: 'it returns false'. Refute it at one input. -/
def historyRootsWrong : ChangeSpec := { name := "historyRoots", fn := fun _ => fun
  | [d1, d2] => { results := [.lit (.bool false)], args := [d1, d2] }
  | _ => none }
def HistoryRootsWrongFalsely : Prop := historyRootsRow.holds Tryd.pinned (OpenSpec.ofChange historyRootsWrong)

/-- 'paciolilaw06.HistoryLengths': WHATEVER THE INPUT: true; the input reads as it did. -/
def historyLengthsSpec : ChangeSpec := { name := "historyLengths", fn := fun _ => fun
  | [d1, d2] => { results := [.lit (.bool true)], args := [d1, d2] }
  | _ => none }
def historyLengthsRow : OpenClaim := { program := "ytecpedpfkdnfhaadoor", sum := "9afef3922825154fc26e2876b3385cedc4ab2835eb8ae7b11820623a7cf7802a", func := "pacioli/paciolilaw06.HistoryLengths", spec := "historyLengths", recurses := true, named := ["pacioli/history.leafMark", "pacioli/sha.start", "pacioli/sha.rounds", "pacioli/history.nodeMark"], plainKeys := false, apart := false, laid := [("pacioli/sha.rounds", laid_pacioli_sha_rounds), ("pacioli/sha.start", laid_pacioli_sha_start), ("pacioli/history.leafMark", laid_pacioli_history_leafMark), ("pacioli/history.nodeMark", laid_pacioli_history_nodeMark)] }
def HistoryLengthsSaid : Prop := historyLengthsRow.holds Tryd.pinned (OpenSpec.ofChange historyLengthsSpec)

/-- ITS FALSE NEIGHBOUR: 'it returns false'. Refute it at one input. -/
def historyLengthsWrong : ChangeSpec := { name := "historyLengths", fn := fun _ => fun
  | [d1, d2] => { results := [.lit (.bool false)], args := [d1, d2] }
  | _ => none }
def HistoryLengthsWrongFalsely : Prop := historyLengthsRow.holds Tryd.pinned (OpenSpec.ofChange historyLengthsWrong)

/-- 'paciolilaw06.HistoryForged': WHATEVER THE INPUT: true; the input reads as it did. -/
def historyForgedSpec : ChangeSpec := { name := "historyForged", fn := fun _ => fun
  | [d1, d2, d3] => { results := [.lit (.bool true)], args := [d1, d2, d3] }
  | _ => none }
def historyForgedRow : OpenClaim := { program := "ytecpedpfkdnfhaadoor", sum := "9afef3922825154fc26e2876b3385cedc4ab2835eb8ae7b11820623a7cf7802a", func := "pacioli/paciolilaw06.HistoryForged", spec := "historyForged", unfollowed := true, recurses := true, named := ["pacioli/history.leafMark", "pacioli/sha.start", "pacioli/sha.rounds", "pacioli/history.nodeMark"], plainKeys := false, apart := false, laid := [("pacioli/sha.rounds", laid_pacioli_sha_rounds), ("pacioli/sha.start", laid_pacioli_sha_start), ("pacioli/history.leafMark", laid_pacioli_history_leafMark), ("pacioli/history.nodeMark", laid_pacioli_history_nodeMark)] }
def HistoryForgedSaid : Prop := historyForgedRow.holds Tryd.pinned (OpenSpec.ofChange historyForgedSpec)

/-- ITS FALSE NEIGHBOUR: 'it returns false'. Refute it at one input. -/
def historyForgedWrong : ChangeSpec := { name := "historyForged", fn := fun _ => fun
  | [d1, d2, d3] => { results := [.lit (.bool false)], args := [d1, d2, d3] }
  | _ => none }
def HistoryForgedWrongFalsely : Prop := historyForgedRow.holds Tryd.pinned (OpenSpec.ofChange historyForgedWrong)

/-- 'paciolilaw06.HistoryTapes': WHATEVER THE INPUT: true; the input reads as it did. -/
def historyTapesSpec : ChangeSpec := { name := "historyTapes", fn := fun _ => fun
  | [d1, d2] => { results := [.lit (.bool true)], args := [d1, d2] }
  | _ => none }
def historyTapesRow : OpenClaim := { program := "ytecpedpfkdnfhaadoor", sum := "9afef3922825154fc26e2876b3385cedc4ab2835eb8ae7b11820623a7cf7802a", func := "pacioli/paciolilaw06.HistoryTapes", spec := "historyTapes", unfollowed := true, recurses := true, named := ["pacioli/history.leafMark", "pacioli/sha.start", "pacioli/sha.rounds", "pacioli/history.nodeMark"], plainKeys := false, apart := false, laid := [("pacioli/sha.rounds", laid_pacioli_sha_rounds), ("pacioli/sha.start", laid_pacioli_sha_start), ("pacioli/history.leafMark", laid_pacioli_history_leafMark), ("pacioli/history.nodeMark", laid_pacioli_history_nodeMark)] }
def HistoryTapesSaid : Prop := historyTapesRow.holds Tryd.pinned (OpenSpec.ofChange historyTapesSpec)

/-- ITS FALSE NEIGHBOUR: 'it returns false'. Refute it at one input. -/
def historyTapesWrong : ChangeSpec := { name := "historyTapes", fn := fun _ => fun
  | [d1, d2] => { results := [.lit (.bool false)], args := [d1, d2] }
  | _ => none }
def HistoryTapesWrongFalsely : Prop := historyTapesRow.holds Tryd.pinned (OpenSpec.ofChange historyTapesWrong)

/-- 'paciolilaw06.HistoryGrows': WHATEVER THE INPUT: true; the input reads as it did. -/
def historyGrowsSpec : ChangeSpec := { name := "historyGrows", fn := fun _ => fun
  | [d1, d2] => { results := [.lit (.bool true)], args := [d1, d2] }
  | _ => none }
def historyGrowsRow : OpenClaim := { program := "ytecpedpfkdnfhaadoor", sum := "9afef3922825154fc26e2876b3385cedc4ab2835eb8ae7b11820623a7cf7802a", func := "pacioli/paciolilaw06.HistoryGrows", spec := "historyGrows", unfollowed := true, recurses := true, named := ["pacioli/history.leafMark", "pacioli/sha.start", "pacioli/sha.rounds", "pacioli/history.nodeMark"], plainKeys := false, apart := false, laid := [("pacioli/sha.rounds", laid_pacioli_sha_rounds), ("pacioli/sha.start", laid_pacioli_sha_start), ("pacioli/history.leafMark", laid_pacioli_history_leafMark), ("pacioli/history.nodeMark", laid_pacioli_history_nodeMark)] }
def HistoryGrowsSaid : Prop := historyGrowsRow.holds Tryd.pinned (OpenSpec.ofChange historyGrowsSpec)

/-- ITS FALSE NEIGHBOUR: 'it returns false'. Refute it at one input. -/
def historyGrowsWrong : ChangeSpec := { name := "historyGrows", fn := fun _ => fun
  | [d1, d2] => { results := [.lit (.bool false)], args := [d1, d2] }
  | _ => none }
def HistoryGrowsWrongFalsely : Prop := historyGrowsRow.holds Tryd.pinned (OpenSpec.ofChange historyGrowsWrong)

/-- 'paciolilaw06.HistoryTurned': WHATEVER THE INPUT: true; the input reads as it did. -/
def historyTurnedSpec : ChangeSpec := { name := "historyTurned", fn := fun _ => fun
  | [d1, d2, d3] => { results := [.lit (.bool true)], args := [d1, d2, d3] }
  | _ => none }
def historyTurnedRow : OpenClaim := { program := "ytecpedpfkdnfhaadoor", sum := "9afef3922825154fc26e2876b3385cedc4ab2835eb8ae7b11820623a7cf7802a", func := "pacioli/paciolilaw06.HistoryTurned", spec := "historyTurned", unfollowed := true, recurses := true, named := ["pacioli/history.leafMark", "pacioli/sha.start", "pacioli/sha.rounds", "pacioli/history.nodeMark"], plainKeys := false, apart := false, laid := [("pacioli/sha.rounds", laid_pacioli_sha_rounds), ("pacioli/sha.start", laid_pacioli_sha_start), ("pacioli/history.leafMark", laid_pacioli_history_leafMark), ("pacioli/history.nodeMark", laid_pacioli_history_nodeMark)] }
def HistoryTurnedSaid : Prop := historyTurnedRow.holds Tryd.pinned (OpenSpec.ofChange historyTurnedSpec)

/-- ITS FALSE NEIGHBOUR: 'it returns false'. Refute it at one input. -/
def historyTurnedWrong : ChangeSpec := { name := "historyTurned", fn := fun _ => fun
  | [d1, d2, d3] => { results := [.lit (.bool false)], args := [d1, d2, d3] }
  | _ => none }
def HistoryTurnedWrongFalsely : Prop := historyTurnedRow.holds Tryd.pinned (OpenSpec.ofChange historyTurnedWrong)

/-- 'paciolilaw06.HistoryMore': WHATEVER THE INPUT: true; the input reads as it did. -/
def historyMoreSpec : ChangeSpec := { name := "historyMore", fn := fun _ => fun
  | [d1, d2] => { results := [.lit (.bool true)], args := [d1, d2] }
  | _ => none }
def historyMoreRow : OpenClaim := { program := "ytecpedpfkdnfhaadoor", sum := "9afef3922825154fc26e2876b3385cedc4ab2835eb8ae7b11820623a7cf7802a", func := "pacioli/paciolilaw06.HistoryMore", spec := "historyMore", unfollowed := true, recurses := true, named := ["pacioli/history.leafMark", "pacioli/sha.start", "pacioli/sha.rounds", "pacioli/history.nodeMark"], plainKeys := false, apart := false, laid := [("pacioli/sha.rounds", laid_pacioli_sha_rounds), ("pacioli/sha.start", laid_pacioli_sha_start), ("pacioli/history.leafMark", laid_pacioli_history_leafMark), ("pacioli/history.nodeMark", laid_pacioli_history_nodeMark)] }
def HistoryMoreSaid : Prop := historyMoreRow.holds Tryd.pinned (OpenSpec.ofChange historyMoreSpec)

/-- ITS FALSE NEIGHBOUR: 'it returns false'. Refute it at one input. -/
def historyMoreWrong : ChangeSpec := { name := "historyMore", fn := fun _ => fun
  | [d1, d2] => { results := [.lit (.bool false)], args := [d1, d2] }
  | _ => none }
def HistoryMoreWrongFalsely : Prop := historyMoreRow.holds Tryd.pinned (OpenSpec.ofChange historyMoreWrong)

/- THE SECOND FORM. 'bulk': how many values and letters a reading holds, each counted each time it is reached (what is shared counts as often as it is met; a slice's spare places count too). A statement '..UptoSaid' is the law's where the arguments, and the package variables that the reading takes, are together of bulk at most 1048576: NARROWER than '..Said'. Prove '..Said' where nothing that the law and all that it calls make is longer than what came in: it says more and counts as full. Else prove '..UptoSaid'. A law counts once. -/
mutual
def uptoBulk {H : Type} : DataW H → Nat
  | .lit (.string bytes) => bytes.length + 1
  | .lit _ => 1
  | .nil => 1
  | .ptr d => uptoBulk d + 1
  | .slice elems spare => uptoBulkAll elems + uptoBulkAll spare + 1
  | .agg parts => uptoBulkAll parts + 1
  | .iface _ d => uptoBulk d + 1
  | .map entries => uptoBulkEntries entries + 1
  | .held _ => 1
def uptoBulkAll {H : Type} : List (DataW H) → Nat
  | [] => 0
  | d :: r => uptoBulk d + uptoBulkAll r
def uptoBulkEntries {H : Type} : List (Lit × DataW H) → Nat
  | [] => 0
  | x :: r => uptoBulkEntry x + uptoBulkEntries r
def uptoBulkEntry {H : Type} : Lit × DataW H → Nat
  | (.string bytes, d) => bytes.length + uptoBulk d + 1
  | (_, d) => uptoBulk d + 1
 end
def uptoSmall : (H : Type) → List (DataW H) → Bool := fun _ ds => decide (uptoBulkAll ds ≤ 1048576)
def OpenSpec.upto (s : _root_.Go.ChangeSpec) : _root_.Go.OpenSpec := { _root_.Go.OpenSpec.ofChange s with cond := some uptoSmall }

/-- 'paciolilaw06.HistoryNodes', WHERE WHAT IT READS IS OF BULK AT MOST 1048576: true; the input reads as it did. -/
def historyNodesUptoRow : OpenClaim := { program := "ytecpedpfkdnfhaadoor", sum := "9afef3922825154fc26e2876b3385cedc4ab2835eb8ae7b11820623a7cf7802a", func := "pacioli/paciolilaw06.HistoryNodes", spec := "historyNodes", recurses := true, named := ["pacioli/history.leafMark", "pacioli/sha.start", "pacioli/sha.rounds", "pacioli/history.nodeMark"], plainKeys := false, apart := false, laid := [("pacioli/sha.rounds", laid_pacioli_sha_rounds), ("pacioli/sha.start", laid_pacioli_sha_start), ("pacioli/history.leafMark", laid_pacioli_history_leafMark), ("pacioli/history.nodeMark", laid_pacioli_history_nodeMark)], narrowed := true }
def HistoryNodesUptoSaid : Prop := historyNodesUptoRow.holds Tryd.pinned (OpenSpec.upto historyNodesSpec)

/-- 'paciolilaw06.HistoryOrders', WHERE WHAT IT READS IS OF BULK AT MOST 1048576: true; the input reads as it did. -/
def historyOrdersUptoRow : OpenClaim := { program := "ytecpedpfkdnfhaadoor", sum := "9afef3922825154fc26e2876b3385cedc4ab2835eb8ae7b11820623a7cf7802a", func := "pacioli/paciolilaw06.HistoryOrders", spec := "historyOrders", unfollowed := true, recurses := true, named := ["pacioli/history.leafMark", "pacioli/sha.start", "pacioli/sha.rounds", "pacioli/history.nodeMark"], plainKeys := false, apart := false, laid := [("pacioli/sha.rounds", laid_pacioli_sha_rounds), ("pacioli/sha.start", laid_pacioli_sha_start), ("pacioli/history.leafMark", laid_pacioli_history_leafMark), ("pacioli/history.nodeMark", laid_pacioli_history_nodeMark)], narrowed := true }
def HistoryOrdersUptoSaid : Prop := historyOrdersUptoRow.holds Tryd.pinned (OpenSpec.upto historyOrdersSpec)

/-- 'paciolilaw06.HistoryRoots', WHERE WHAT IT READS IS OF BULK AT MOST 1048576: true; the input reads as it did. -/
def historyRootsUptoRow : OpenClaim := { program := "ytecpedpfkdnfhaadoor", sum := "9afef3922825154fc26e2876b3385cedc4ab2835eb8ae7b11820623a7cf7802a", func := "pacioli/paciolilaw06.HistoryRoots", spec := "historyRoots", recurses := true, named := ["pacioli/history.leafMark", "pacioli/sha.start", "pacioli/sha.rounds", "pacioli/history.nodeMark"], plainKeys := false, apart := false, laid := [("pacioli/sha.rounds", laid_pacioli_sha_rounds), ("pacioli/sha.start", laid_pacioli_sha_start), ("pacioli/history.leafMark", laid_pacioli_history_leafMark), ("pacioli/history.nodeMark", laid_pacioli_history_nodeMark)], narrowed := true }
def HistoryRootsUptoSaid : Prop := historyRootsUptoRow.holds Tryd.pinned (OpenSpec.upto historyRootsSpec)

/-- 'paciolilaw06.HistoryLengths', WHERE WHAT IT READS IS OF BULK AT MOST 1048576: true; the input reads as it did. -/
def historyLengthsUptoRow : OpenClaim := { program := "ytecpedpfkdnfhaadoor", sum := "9afef3922825154fc26e2876b3385cedc4ab2835eb8ae7b11820623a7cf7802a", func := "pacioli/paciolilaw06.HistoryLengths", spec := "historyLengths", recurses := true, named := ["pacioli/history.leafMark", "pacioli/sha.start", "pacioli/sha.rounds", "pacioli/history.nodeMark"], plainKeys := false, apart := false, laid := [("pacioli/sha.rounds", laid_pacioli_sha_rounds), ("pacioli/sha.start", laid_pacioli_sha_start), ("pacioli/history.leafMark", laid_pacioli_history_leafMark), ("pacioli/history.nodeMark", laid_pacioli_history_nodeMark)], narrowed := true }
def HistoryLengthsUptoSaid : Prop := historyLengthsUptoRow.holds Tryd.pinned (OpenSpec.upto historyLengthsSpec)

/-- 'paciolilaw06.HistoryForged', WHERE WHAT IT READS IS OF BULK AT MOST 1048576: true; the input reads as it did. -/
def historyForgedUptoRow : OpenClaim := { program := "ytecpedpfkdnfhaadoor", sum := "9afef3922825154fc26e2876b3385cedc4ab2835eb8ae7b11820623a7cf7802a", func := "pacioli/paciolilaw06.HistoryForged", spec := "historyForged", unfollowed := true, recurses := true, named := ["pacioli/history.leafMark", "pacioli/sha.start", "pacioli/sha.rounds", "pacioli/history.nodeMark"], plainKeys := false, apart := false, laid := [("pacioli/sha.rounds", laid_pacioli_sha_rounds), ("pacioli/sha.start", laid_pacioli_sha_start), ("pacioli/history.leafMark", laid_pacioli_history_leafMark), ("pacioli/history.nodeMark", laid_pacioli_history_nodeMark)], narrowed := true }
def HistoryForgedUptoSaid : Prop := historyForgedUptoRow.holds Tryd.pinned (OpenSpec.upto historyForgedSpec)

/-- 'paciolilaw06.HistoryTapes', WHERE WHAT IT READS IS OF BULK AT MOST 1048576: true; the input reads as it did. -/
def historyTapesUptoRow : OpenClaim := { program := "ytecpedpfkdnfhaadoor", sum := "9afef3922825154fc26e2876b3385cedc4ab2835eb8ae7b11820623a7cf7802a", func := "pacioli/paciolilaw06.HistoryTapes", spec := "historyTapes", unfollowed := true, recurses := true, named := ["pacioli/history.leafMark", "pacioli/sha.start", "pacioli/sha.rounds", "pacioli/history.nodeMark"], plainKeys := false, apart := false, laid := [("pacioli/sha.rounds", laid_pacioli_sha_rounds), ("pacioli/sha.start", laid_pacioli_sha_start), ("pacioli/history.leafMark", laid_pacioli_history_leafMark), ("pacioli/history.nodeMark", laid_pacioli_history_nodeMark)], narrowed := true }
def HistoryTapesUptoSaid : Prop := historyTapesUptoRow.holds Tryd.pinned (OpenSpec.upto historyTapesSpec)

/-- 'paciolilaw06.HistoryGrows', WHERE WHAT IT READS IS OF BULK AT MOST 1048576: true; the input reads as it did. -/
def historyGrowsUptoRow : OpenClaim := { program := "ytecpedpfkdnfhaadoor", sum := "9afef3922825154fc26e2876b3385cedc4ab2835eb8ae7b11820623a7cf7802a", func := "pacioli/paciolilaw06.HistoryGrows", spec := "historyGrows", unfollowed := true, recurses := true, named := ["pacioli/history.leafMark", "pacioli/sha.start", "pacioli/sha.rounds", "pacioli/history.nodeMark"], plainKeys := false, apart := false, laid := [("pacioli/sha.rounds", laid_pacioli_sha_rounds), ("pacioli/sha.start", laid_pacioli_sha_start), ("pacioli/history.leafMark", laid_pacioli_history_leafMark), ("pacioli/history.nodeMark", laid_pacioli_history_nodeMark)], narrowed := true }
def HistoryGrowsUptoSaid : Prop := historyGrowsUptoRow.holds Tryd.pinned (OpenSpec.upto historyGrowsSpec)

/-- 'paciolilaw06.HistoryTurned', WHERE WHAT IT READS IS OF BULK AT MOST 1048576: true; the input reads as it did. -/
def historyTurnedUptoRow : OpenClaim := { program := "ytecpedpfkdnfhaadoor", sum := "9afef3922825154fc26e2876b3385cedc4ab2835eb8ae7b11820623a7cf7802a", func := "pacioli/paciolilaw06.HistoryTurned", spec := "historyTurned", unfollowed := true, recurses := true, named := ["pacioli/history.leafMark", "pacioli/sha.start", "pacioli/sha.rounds", "pacioli/history.nodeMark"], plainKeys := false, apart := false, laid := [("pacioli/sha.rounds", laid_pacioli_sha_rounds), ("pacioli/sha.start", laid_pacioli_sha_start), ("pacioli/history.leafMark", laid_pacioli_history_leafMark), ("pacioli/history.nodeMark", laid_pacioli_history_nodeMark)], narrowed := true }
def HistoryTurnedUptoSaid : Prop := historyTurnedUptoRow.holds Tryd.pinned (OpenSpec.upto historyTurnedSpec)

/-- 'paciolilaw06.HistoryMore', WHERE WHAT IT READS IS OF BULK AT MOST 1048576: true; the input reads as it did. -/
def historyMoreUptoRow : OpenClaim := { program := "ytecpedpfkdnfhaadoor", sum := "9afef3922825154fc26e2876b3385cedc4ab2835eb8ae7b11820623a7cf7802a", func := "pacioli/paciolilaw06.HistoryMore", spec := "historyMore", unfollowed := true, recurses := true, named := ["pacioli/history.leafMark", "pacioli/sha.start", "pacioli/sha.rounds", "pacioli/history.nodeMark"], plainKeys := false, apart := false, laid := [("pacioli/sha.rounds", laid_pacioli_sha_rounds), ("pacioli/sha.start", laid_pacioli_sha_start), ("pacioli/history.leafMark", laid_pacioli_history_leafMark), ("pacioli/history.nodeMark", laid_pacioli_history_nodeMark)], narrowed := true }
def HistoryMoreUptoSaid : Prop := historyMoreUptoRow.holds Tryd.pinned (OpenSpec.upto historyMoreSpec)

end Rows
end Go.Proofs.YtecpedpfkdnfhaaDoor
