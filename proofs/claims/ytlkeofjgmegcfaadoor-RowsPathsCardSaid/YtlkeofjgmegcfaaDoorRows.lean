/-
  NARROWER THAN 'FOR EVERY INPUT', by the rows' own cells (each row's printed sentence says how): RowsSpans: laid · RowsEnds: laid · RowsLeaves: laid · RowsCopies: laid · RowsApart: laid · RowsPaths: laid.
  DERIVED. THE GIVEN ROWS OF THIS SEAT. 6 by the template 'for every input the law returns true; each argument reads behind the call as it read before'; 0 by the template 'total and deterministic' (their statements: YtlkeofjgmegcfaaDoorTotals.lean).
  GIVEN WITH THE SEED: the statements are not yours to turn. If you find one false, say at which input.
  Laid BY PROGRAM, IN A SANDBOX (cutbox-rows.mjs): the forced cells as the released guide's own fill.sh prints them over the translation 6c84f4a1397c5ed1… (all of the seat's roots in one cut). By AI agents, Wed Nov 11 2026. No macro, syntax, notation, axiom, sorry.
-/
import Derived.Test.YtlkeofjgmegcfaaDoorChecked
import GoSem.Claim
import GoSem.ClaimJoined
import GoSem.ClaimMapViews
import Derived.JoinedTies
import Derived.KernelRfl
namespace Go.Proofs.YtlkeofjgmegcfaaDoor
/- THE CELL 'sum', in the pinned program and in every row, IS THE sha256 OF THE DUMP (.gsa) THAT YtlkeofjgmegcfaaDoorProg.lean LOADS. Nothing in Lean hashes anything: it is a label: what it is worth is what the hold of that sum in a sandbox is worth. -/
noncomputable def Tryd.pinned : Pinned := { name := "ytlkeofjgmegcfaadoor", sum := "6c84f4a1397c5ed1e99d307e896378ca8572ef0380ecbbc266bfa08b06d9c0c9", checked := Tryd.checked }
namespace Rows
def none {H : Type} : Left H := { results := [], args := [] }

/- WHAT THE LISTED PACKAGE-LEVEL VARIABLES READ AS WHEN THE CALL BEGINS. Each datum BY PROGRAM (the guide's laid-datum.mjs) off the statement by which the dump's own 'gosem.cut.vars' lays the variable. In a bare row this is a premise. The card (YtlkeofjgmegcfaaDoorCards.lean) ties it to the program's text. -/
def laid_pacioli_sha_rounds {H : Type} : DataW H := .agg [.lit (.int .u32 1116352408), .lit (.int .u32 1899447441), .lit (.int .u32 3049323471), .lit (.int .u32 3921009573), .lit (.int .u32 961987163), .lit (.int .u32 1508970993), .lit (.int .u32 2453635748), .lit (.int .u32 2870763221), .lit (.int .u32 3624381080), .lit (.int .u32 310598401), .lit (.int .u32 607225278), .lit (.int .u32 1426881987), .lit (.int .u32 1925078388), .lit (.int .u32 2162078206), .lit (.int .u32 2614888103), .lit (.int .u32 3248222580), .lit (.int .u32 3835390401), .lit (.int .u32 4022224774), .lit (.int .u32 264347078), .lit (.int .u32 604807628), .lit (.int .u32 770255983), .lit (.int .u32 1249150122), .lit (.int .u32 1555081692), .lit (.int .u32 1996064986), .lit (.int .u32 2554220882), .lit (.int .u32 2821834349), .lit (.int .u32 2952996808), .lit (.int .u32 3210313671), .lit (.int .u32 3336571891), .lit (.int .u32 3584528711), .lit (.int .u32 113926993), .lit (.int .u32 338241895), .lit (.int .u32 666307205), .lit (.int .u32 773529912), .lit (.int .u32 1294757372), .lit (.int .u32 1396182291), .lit (.int .u32 1695183700), .lit (.int .u32 1986661051), .lit (.int .u32 2177026350), .lit (.int .u32 2456956037), .lit (.int .u32 2730485921), .lit (.int .u32 2820302411), .lit (.int .u32 3259730800), .lit (.int .u32 3345764771), .lit (.int .u32 3516065817), .lit (.int .u32 3600352804), .lit (.int .u32 4094571909), .lit (.int .u32 275423344), .lit (.int .u32 430227734), .lit (.int .u32 506948616), .lit (.int .u32 659060556), .lit (.int .u32 883997877), .lit (.int .u32 958139571), .lit (.int .u32 1322822218), .lit (.int .u32 1537002063), .lit (.int .u32 1747873779), .lit (.int .u32 1955562222), .lit (.int .u32 2024104815), .lit (.int .u32 2227730452), .lit (.int .u32 2361852424), .lit (.int .u32 2428436474), .lit (.int .u32 2756734187), .lit (.int .u32 3204031479), .lit (.int .u32 3329325298)]
def laid_pacioli_sha_start {H : Type} : DataW H := .agg [.lit (.int .u32 1779033703), .lit (.int .u32 3144134277), .lit (.int .u32 1013904242), .lit (.int .u32 2773480762), .lit (.int .u32 1359893119), .lit (.int .u32 2600822924), .lit (.int .u32 528734635), .lit (.int .u32 1541459225)]
def laid_pacioli_history_leafMark {H : Type} : DataW H := .slice [.lit (.int .u8 0)] []
def laid_pacioli_history_nodeMark {H : Type} : DataW H := .slice [.lit (.int .u8 1)] []

/-- 'paciolilaw10.RowsSpans': WHATEVER THE INPUT: true; the input reads as it did. -/
def rowsSpansSpec : ChangeSpec := { name := "rowsSpans", fn := fun _ => fun
  | [d1, d2, d3] => { results := [.lit (.bool true)], args := [d1, d2, d3] }
  | _ => none }
def rowsSpansRow : OpenClaim := { program := "ytlkeofjgmegcfaadoor", sum := "6c84f4a1397c5ed1e99d307e896378ca8572ef0380ecbbc266bfa08b06d9c0c9", func := "pacioli/paciolilaw10.RowsSpans", spec := "rowsSpans", recurses := true, named := ["pacioli/history.leafMark", "pacioli/sha.start", "pacioli/sha.rounds", "pacioli/history.nodeMark"], plainKeys := false, apart := false, laid := [("pacioli/sha.rounds", laid_pacioli_sha_rounds), ("pacioli/sha.start", laid_pacioli_sha_start), ("pacioli/history.leafMark", laid_pacioli_history_leafMark), ("pacioli/history.nodeMark", laid_pacioli_history_nodeMark)] }
def RowsSpansSaid : Prop := rowsSpansRow.holds Tryd.pinned (OpenSpec.ofChange rowsSpansSpec)

/-- ITS FALSE NEIGHBOUR: 'it returns false'. Refute it at one input. -/
def rowsSpansWrong : ChangeSpec := { name := "rowsSpans", fn := fun _ => fun
  | [d1, d2, d3] => { results := [.lit (.bool false)], args := [d1, d2, d3] }
  | _ => none }
def RowsSpansWrongFalsely : Prop := rowsSpansRow.holds Tryd.pinned (OpenSpec.ofChange rowsSpansWrong)

/-- 'paciolilaw10.RowsEnds': WHATEVER THE INPUT: true; the input reads as it did. -/
def rowsEndsSpec : ChangeSpec := { name := "rowsEnds", fn := fun _ => fun
  | [d1, d2] => { results := [.lit (.bool true)], args := [d1, d2] }
  | _ => none }
def rowsEndsRow : OpenClaim := { program := "ytlkeofjgmegcfaadoor", sum := "6c84f4a1397c5ed1e99d307e896378ca8572ef0380ecbbc266bfa08b06d9c0c9", func := "pacioli/paciolilaw10.RowsEnds", spec := "rowsEnds", recurses := true, named := ["pacioli/history.leafMark", "pacioli/sha.start", "pacioli/sha.rounds", "pacioli/history.nodeMark"], plainKeys := false, apart := false, laid := [("pacioli/sha.rounds", laid_pacioli_sha_rounds), ("pacioli/sha.start", laid_pacioli_sha_start), ("pacioli/history.leafMark", laid_pacioli_history_leafMark), ("pacioli/history.nodeMark", laid_pacioli_history_nodeMark)] }
def RowsEndsSaid : Prop := rowsEndsRow.holds Tryd.pinned (OpenSpec.ofChange rowsEndsSpec)

/-- ITS FALSE NEIGHBOUR: 'it returns false'. Refute it at one input. -/
def rowsEndsWrong : ChangeSpec := { name := "rowsEnds", fn := fun _ => fun
  | [d1, d2] => { results := [.lit (.bool false)], args := [d1, d2] }
  | _ => none }
def RowsEndsWrongFalsely : Prop := rowsEndsRow.holds Tryd.pinned (OpenSpec.ofChange rowsEndsWrong)

/-- 'paciolilaw10.RowsLeaves': WHATEVER THE INPUT: true; the input reads as it did. -/
def rowsLeavesSpec : ChangeSpec := { name := "rowsLeaves", fn := fun _ => fun
  | [d1, d2] => { results := [.lit (.bool true)], args := [d1, d2] }
  | _ => none }
def rowsLeavesRow : OpenClaim := { program := "ytlkeofjgmegcfaadoor", sum := "6c84f4a1397c5ed1e99d307e896378ca8572ef0380ecbbc266bfa08b06d9c0c9", func := "pacioli/paciolilaw10.RowsLeaves", spec := "rowsLeaves", unfollowed := true, recurses := true, named := ["pacioli/history.leafMark", "pacioli/sha.start", "pacioli/sha.rounds", "pacioli/history.nodeMark"], plainKeys := false, apart := false, laid := [("pacioli/sha.rounds", laid_pacioli_sha_rounds), ("pacioli/sha.start", laid_pacioli_sha_start), ("pacioli/history.leafMark", laid_pacioli_history_leafMark), ("pacioli/history.nodeMark", laid_pacioli_history_nodeMark)] }
def RowsLeavesSaid : Prop := rowsLeavesRow.holds Tryd.pinned (OpenSpec.ofChange rowsLeavesSpec)

/-- ITS FALSE NEIGHBOUR: 'it returns false'. Refute it at one input. -/
def rowsLeavesWrong : ChangeSpec := { name := "rowsLeaves", fn := fun _ => fun
  | [d1, d2] => { results := [.lit (.bool false)], args := [d1, d2] }
  | _ => none }
def RowsLeavesWrongFalsely : Prop := rowsLeavesRow.holds Tryd.pinned (OpenSpec.ofChange rowsLeavesWrong)

/-- 'paciolilaw10.RowsCopies': WHATEVER THE INPUT: true; the input reads as it did. -/
def rowsCopiesSpec : ChangeSpec := { name := "rowsCopies", fn := fun _ => fun
  | [d1, d2] => { results := [.lit (.bool true)], args := [d1, d2] }
  | _ => none }
def rowsCopiesRow : OpenClaim := { program := "ytlkeofjgmegcfaadoor", sum := "6c84f4a1397c5ed1e99d307e896378ca8572ef0380ecbbc266bfa08b06d9c0c9", func := "pacioli/paciolilaw10.RowsCopies", spec := "rowsCopies", recurses := true, named := ["pacioli/history.leafMark", "pacioli/sha.start", "pacioli/sha.rounds", "pacioli/history.nodeMark"], plainKeys := false, apart := false, laid := [("pacioli/sha.rounds", laid_pacioli_sha_rounds), ("pacioli/sha.start", laid_pacioli_sha_start), ("pacioli/history.leafMark", laid_pacioli_history_leafMark), ("pacioli/history.nodeMark", laid_pacioli_history_nodeMark)] }
def RowsCopiesSaid : Prop := rowsCopiesRow.holds Tryd.pinned (OpenSpec.ofChange rowsCopiesSpec)

/-- ITS FALSE NEIGHBOUR: 'it returns false'. Refute it at one input. -/
def rowsCopiesWrong : ChangeSpec := { name := "rowsCopies", fn := fun _ => fun
  | [d1, d2] => { results := [.lit (.bool false)], args := [d1, d2] }
  | _ => none }
def RowsCopiesWrongFalsely : Prop := rowsCopiesRow.holds Tryd.pinned (OpenSpec.ofChange rowsCopiesWrong)

/-- 'paciolilaw10.RowsApart': WHATEVER THE INPUT: true; the input reads as it did. -/
def rowsApartSpec : ChangeSpec := { name := "rowsApart", fn := fun _ => fun
  | [d1, d2, d3] => { results := [.lit (.bool true)], args := [d1, d2, d3] }
  | _ => none }
def rowsApartRow : OpenClaim := { program := "ytlkeofjgmegcfaadoor", sum := "6c84f4a1397c5ed1e99d307e896378ca8572ef0380ecbbc266bfa08b06d9c0c9", func := "pacioli/paciolilaw10.RowsApart", spec := "rowsApart", unfollowed := true, recurses := true, named := ["pacioli/history.leafMark", "pacioli/sha.start", "pacioli/sha.rounds", "pacioli/history.nodeMark"], plainKeys := false, apart := false, laid := [("pacioli/sha.rounds", laid_pacioli_sha_rounds), ("pacioli/sha.start", laid_pacioli_sha_start), ("pacioli/history.leafMark", laid_pacioli_history_leafMark), ("pacioli/history.nodeMark", laid_pacioli_history_nodeMark)] }
def RowsApartSaid : Prop := rowsApartRow.holds Tryd.pinned (OpenSpec.ofChange rowsApartSpec)

/-- ITS FALSE NEIGHBOUR: 'it returns false'. Refute it at one input. -/
def rowsApartWrong : ChangeSpec := { name := "rowsApart", fn := fun _ => fun
  | [d1, d2, d3] => { results := [.lit (.bool false)], args := [d1, d2, d3] }
  | _ => none }
def RowsApartWrongFalsely : Prop := rowsApartRow.holds Tryd.pinned (OpenSpec.ofChange rowsApartWrong)

/-- 'paciolilaw10.RowsPaths': WHATEVER THE INPUT: true; the input reads as it did. -/
def rowsPathsSpec : ChangeSpec := { name := "rowsPaths", fn := fun _ => fun
  | [d] => { results := [.lit (.bool true)], args := [d] }
  | _ => none }
def rowsPathsRow : OpenClaim := { program := "ytlkeofjgmegcfaadoor", sum := "6c84f4a1397c5ed1e99d307e896378ca8572ef0380ecbbc266bfa08b06d9c0c9", func := "pacioli/paciolilaw10.RowsPaths", spec := "rowsPaths", recurses := true, named := ["pacioli/history.leafMark", "pacioli/sha.start", "pacioli/sha.rounds", "pacioli/history.nodeMark"], plainKeys := false, apart := false, laid := [("pacioli/sha.rounds", laid_pacioli_sha_rounds), ("pacioli/sha.start", laid_pacioli_sha_start), ("pacioli/history.leafMark", laid_pacioli_history_leafMark), ("pacioli/history.nodeMark", laid_pacioli_history_nodeMark)] }
def RowsPathsSaid : Prop := rowsPathsRow.holds Tryd.pinned (OpenSpec.ofChange rowsPathsSpec)

/-- ITS FALSE NEIGHBOUR: 'it returns false'. Refute it at one input. -/
def rowsPathsWrong : ChangeSpec := { name := "rowsPaths", fn := fun _ => fun
  | [d] => { results := [.lit (.bool false)], args := [d] }
  | _ => none }
def RowsPathsWrongFalsely : Prop := rowsPathsRow.holds Tryd.pinned (OpenSpec.ofChange rowsPathsWrong)

/- THE SECOND FORM. 'bulk': how many values and letters a reading holds, each counted each time it is reached (what is shared counts as often as it is met; a slice's spare places count too). A statement '..UptoSaid' is the law's where the arguments, and the package variables that the reading takes, are together of bulk at most 1048576: NARROWER than '..Said'. Prove '..Said' where nothing that the law and all that it calls make is longer than what came in: it says more and counts as full. Else prove '..UptoSaid'. A law counts once. -/
mutual
def uptoBulk {H : Type} : DataW H → Nat
  | .lit (.string bytes) => bytes.length + 1
  | .lit _ => 1
  | .nil => 1
  | .ptr d => uptoBulk d + 1
  | .slice elems spare => uptoBulkAll elems + uptoBulkAll spare + 1
  | .agg parts => uptoBulkAll parts + 1
  | .iface _ d => uptoBulk d + 1
  | .map entries => uptoBulkEntries entries + 1
  | .held _ => 1
def uptoBulkAll {H : Type} : List (DataW H) → Nat
  | [] => 0
  | d :: r => uptoBulk d + uptoBulkAll r
def uptoBulkEntries {H : Type} : List (Lit × DataW H) → Nat
  | [] => 0
  | x :: r => uptoBulkEntry x + uptoBulkEntries r
def uptoBulkEntry {H : Type} : Lit × DataW H → Nat
  | (.string bytes, d) => bytes.length + uptoBulk d + 1
  | (_, d) => uptoBulk d + 1
 end
def uptoSmall : (H : Type) → List (DataW H) → Bool := fun _ ds => decide (uptoBulkAll ds ≤ 1048576)
def OpenSpec.upto (s : _root_.Go.ChangeSpec) : _root_.Go.OpenSpec := { _root_.Go.OpenSpec.ofChange s with cond := some uptoSmall }

/-- 'paciolilaw10.RowsSpans', WHERE WHAT IT READS IS OF BULK AT MOST 1048576: true; the input reads as it did. -/
def rowsSpansUptoRow : OpenClaim := { program := "ytlkeofjgmegcfaadoor", sum := "6c84f4a1397c5ed1e99d307e896378ca8572ef0380ecbbc266bfa08b06d9c0c9", func := "pacioli/paciolilaw10.RowsSpans", spec := "rowsSpans", recurses := true, named := ["pacioli/history.leafMark", "pacioli/sha.start", "pacioli/sha.rounds", "pacioli/history.nodeMark"], plainKeys := false, apart := false, laid := [("pacioli/sha.rounds", laid_pacioli_sha_rounds), ("pacioli/sha.start", laid_pacioli_sha_start), ("pacioli/history.leafMark", laid_pacioli_history_leafMark), ("pacioli/history.nodeMark", laid_pacioli_history_nodeMark)], narrowed := true }
def RowsSpansUptoSaid : Prop := rowsSpansUptoRow.holds Tryd.pinned (OpenSpec.upto rowsSpansSpec)

/-- 'paciolilaw10.RowsEnds', WHERE WHAT IT READS IS OF BULK AT MOST 1048576: true; the input reads as it did. -/
def rowsEndsUptoRow : OpenClaim := { program := "ytlkeofjgmegcfaadoor", sum := "6c84f4a1397c5ed1e99d307e896378ca8572ef0380ecbbc266bfa08b06d9c0c9", func := "pacioli/paciolilaw10.RowsEnds", spec := "rowsEnds", recurses := true, named := ["pacioli/history.leafMark", "pacioli/sha.start", "pacioli/sha.rounds", "pacioli/history.nodeMark"], plainKeys := false, apart := false, laid := [("pacioli/sha.rounds", laid_pacioli_sha_rounds), ("pacioli/sha.start", laid_pacioli_sha_start), ("pacioli/history.leafMark", laid_pacioli_history_leafMark), ("pacioli/history.nodeMark", laid_pacioli_history_nodeMark)], narrowed := true }
def RowsEndsUptoSaid : Prop := rowsEndsUptoRow.holds Tryd.pinned (OpenSpec.upto rowsEndsSpec)

/-- 'paciolilaw10.RowsLeaves', WHERE WHAT IT READS IS OF BULK AT MOST 1048576: true; the input reads as it did. -/
def rowsLeavesUptoRow : OpenClaim := { program := "ytlkeofjgmegcfaadoor", sum := "6c84f4a1397c5ed1e99d307e896378ca8572ef0380ecbbc266bfa08b06d9c0c9", func := "pacioli/paciolilaw10.RowsLeaves", spec := "rowsLeaves", unfollowed := true, recurses := true, named := ["pacioli/history.leafMark", "pacioli/sha.start", "pacioli/sha.rounds", "pacioli/history.nodeMark"], plainKeys := false, apart := false, laid := [("pacioli/sha.rounds", laid_pacioli_sha_rounds), ("pacioli/sha.start", laid_pacioli_sha_start), ("pacioli/history.leafMark", laid_pacioli_history_leafMark), ("pacioli/history.nodeMark", laid_pacioli_history_nodeMark)], narrowed := true }
def RowsLeavesUptoSaid : Prop := rowsLeavesUptoRow.holds Tryd.pinned (OpenSpec.upto rowsLeavesSpec)

/-- 'paciolilaw10.RowsCopies', WHERE WHAT IT READS IS OF BULK AT MOST 1048576: true; the input reads as it did. -/
def rowsCopiesUptoRow : OpenClaim := { program := "ytlkeofjgmegcfaadoor", sum := "6c84f4a1397c5ed1e99d307e896378ca8572ef0380ecbbc266bfa08b06d9c0c9", func := "pacioli/paciolilaw10.RowsCopies", spec := "rowsCopies", recurses := true, named := ["pacioli/history.leafMark", "pacioli/sha.start", "pacioli/sha.rounds", "pacioli/history.nodeMark"], plainKeys := false, apart := false, laid := [("pacioli/sha.rounds", laid_pacioli_sha_rounds), ("pacioli/sha.start", laid_pacioli_sha_start), ("pacioli/history.leafMark", laid_pacioli_history_leafMark), ("pacioli/history.nodeMark", laid_pacioli_history_nodeMark)], narrowed := true }
def RowsCopiesUptoSaid : Prop := rowsCopiesUptoRow.holds Tryd.pinned (OpenSpec.upto rowsCopiesSpec)

/-- 'paciolilaw10.RowsApart', WHERE WHAT IT READS IS OF BULK AT MOST 1048576: true; the input reads as it did. -/
def rowsApartUptoRow : OpenClaim := { program := "ytlkeofjgmegcfaadoor", sum := "6c84f4a1397c5ed1e99d307e896378ca8572ef0380ecbbc266bfa08b06d9c0c9", func := "pacioli/paciolilaw10.RowsApart", spec := "rowsApart", unfollowed := true, recurses := true, named := ["pacioli/history.leafMark", "pacioli/sha.start", "pacioli/sha.rounds", "pacioli/history.nodeMark"], plainKeys := false, apart := false, laid := [("pacioli/sha.rounds", laid_pacioli_sha_rounds), ("pacioli/sha.start", laid_pacioli_sha_start), ("pacioli/history.leafMark", laid_pacioli_history_leafMark), ("pacioli/history.nodeMark", laid_pacioli_history_nodeMark)], narrowed := true }
def RowsApartUptoSaid : Prop := rowsApartUptoRow.holds Tryd.pinned (OpenSpec.upto rowsApartSpec)

/-- 'paciolilaw10.RowsPaths', WHERE WHAT IT READS IS OF BULK AT MOST 1048576: true; the input reads as it did. -/
def rowsPathsUptoRow : OpenClaim := { program := "ytlkeofjgmegcfaadoor", sum := "6c84f4a1397c5ed1e99d307e896378ca8572ef0380ecbbc266bfa08b06d9c0c9", func := "pacioli/paciolilaw10.RowsPaths", spec := "rowsPaths", recurses := true, named := ["pacioli/history.leafMark", "pacioli/sha.start", "pacioli/sha.rounds", "pacioli/history.nodeMark"], plainKeys := false, apart := false, laid := [("pacioli/sha.rounds", laid_pacioli_sha_rounds), ("pacioli/sha.start", laid_pacioli_sha_start), ("pacioli/history.leafMark", laid_pacioli_history_leafMark), ("pacioli/history.nodeMark", laid_pacioli_history_nodeMark)], narrowed := true }
def RowsPathsUptoSaid : Prop := rowsPathsUptoRow.holds Tryd.pinned (OpenSpec.upto rowsPathsSpec)

end Rows
end Go.Proofs.YtlkeofjgmegcfaaDoor
