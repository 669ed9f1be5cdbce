/-
  NARROWER THAN 'FOR EVERY INPUT', by the rows' own cells (each row's printed sentence says how): NodeTexts: laid · NodeSorts: laid · NodeHeights: laid · NodeValids: laid · NodeLabels: laid · NodeRoots: laid · NodeWhole: laid.
  DERIVED. THE GIVEN ROWS OF THIS SEAT. 7 by the template 'for every input the law returns true; each argument reads behind the call as it read before'; 0 by the template 'total and deterministic' (their statements: YtkklgmhmhhbjkaaDoorTotals.lean).
  GIVEN WITH THE SEED: the statements are not yours to turn. If you find one false, say at which input.
  Laid BY PROGRAM, IN A SANDBOX (cutbox-rows.mjs): the forced cells as the released guide's own fill.sh prints them over the translation 82d1fb2310a34fc2… (all of the seat's roots in one cut). By AI agents, Wed Nov 11 2026. No macro, syntax, notation, axiom, sorry.
-/
import Derived.Test.YtkklgmhmhhbjkaaDoorChecked
import GoSem.Claim
import GoSem.ClaimJoined
import GoSem.ClaimMapViews
import Derived.JoinedTies
import Derived.KernelRfl
namespace Go.Proofs.YtkklgmhmhhbjkaaDoor
/- THE CELL 'sum', in the pinned program and in every row, IS THE sha256 OF THE DUMP (.gsa) THAT YtkklgmhmhhbjkaaDoorProg.lean LOADS. Nothing in Lean hashes anything: it is a label: what it is worth is what the hold of that sum in a sandbox is worth. -/
noncomputable def Tryd.pinned : Pinned := { name := "ytkklgmhmhhbjkaadoor", sum := "82d1fb2310a34fc2b68327297a518ec120e99d5776361f5e89bcacdf4760f7b9", checked := Tryd.checked }
namespace Rows
def none {H : Type} : Left H := { results := [], args := [] }

/- WHAT THE LISTED PACKAGE-LEVEL VARIABLES READ AS WHEN THE CALL BEGINS. Each datum BY PROGRAM (the guide's laid-datum.mjs) off the statement by which the dump's own 'gosem.cut.vars' lays the variable. In a bare row this is a premise. The card (YtkklgmhmhhbjkaaDoorCards.lean) ties it to the program's text. -/
def laid_witness_node_tags {H : Type} : DataW H := .agg [.lit (.int .u8 17), .lit (.int .u8 18), .lit (.int .u8 19), .lit (.int .u8 20), .lit (.int .u8 23)]
def laid_witness_digest_rounds {H : Type} : DataW H := .agg [.lit (.int .u32 1116352408), .lit (.int .u32 1899447441), .lit (.int .u32 3049323471), .lit (.int .u32 3921009573), .lit (.int .u32 961987163), .lit (.int .u32 1508970993), .lit (.int .u32 2453635748), .lit (.int .u32 2870763221), .lit (.int .u32 3624381080), .lit (.int .u32 310598401), .lit (.int .u32 607225278), .lit (.int .u32 1426881987), .lit (.int .u32 1925078388), .lit (.int .u32 2162078206), .lit (.int .u32 2614888103), .lit (.int .u32 3248222580), .lit (.int .u32 3835390401), .lit (.int .u32 4022224774), .lit (.int .u32 264347078), .lit (.int .u32 604807628), .lit (.int .u32 770255983), .lit (.int .u32 1249150122), .lit (.int .u32 1555081692), .lit (.int .u32 1996064986), .lit (.int .u32 2554220882), .lit (.int .u32 2821834349), .lit (.int .u32 2952996808), .lit (.int .u32 3210313671), .lit (.int .u32 3336571891), .lit (.int .u32 3584528711), .lit (.int .u32 113926993), .lit (.int .u32 338241895), .lit (.int .u32 666307205), .lit (.int .u32 773529912), .lit (.int .u32 1294757372), .lit (.int .u32 1396182291), .lit (.int .u32 1695183700), .lit (.int .u32 1986661051), .lit (.int .u32 2177026350), .lit (.int .u32 2456956037), .lit (.int .u32 2730485921), .lit (.int .u32 2820302411), .lit (.int .u32 3259730800), .lit (.int .u32 3345764771), .lit (.int .u32 3516065817), .lit (.int .u32 3600352804), .lit (.int .u32 4094571909), .lit (.int .u32 275423344), .lit (.int .u32 430227734), .lit (.int .u32 506948616), .lit (.int .u32 659060556), .lit (.int .u32 883997877), .lit (.int .u32 958139571), .lit (.int .u32 1322822218), .lit (.int .u32 1537002063), .lit (.int .u32 1747873779), .lit (.int .u32 1955562222), .lit (.int .u32 2024104815), .lit (.int .u32 2227730452), .lit (.int .u32 2361852424), .lit (.int .u32 2428436474), .lit (.int .u32 2756734187), .lit (.int .u32 3204031479), .lit (.int .u32 3329325298)]
def laid_witness_digest_first {H : Type} : DataW H := .agg [.lit (.int .u32 1779033703), .lit (.int .u32 3144134277), .lit (.int .u32 1013904242), .lit (.int .u32 2773480762), .lit (.int .u32 1359893119), .lit (.int .u32 2600822924), .lit (.int .u32 528734635), .lit (.int .u32 1541459225)]

/-- 'witnesslaw7.NodeTexts': WHATEVER THE INPUT: true; the input reads as it did. -/
def nodeTextsSpec : ChangeSpec := { name := "nodeTexts", fn := fun _ => fun
  | [d1, d2, d3, d4] => { results := [.lit (.bool true)], args := [d1, d2, d3, d4] }
  | _ => none }
def nodeTextsRow : OpenClaim := { program := "ytkklgmhmhhbjkaadoor", sum := "82d1fb2310a34fc2b68327297a518ec120e99d5776361f5e89bcacdf4760f7b9", func := "witness/witnesslaw7.NodeTexts", spec := "nodeTexts", named := ["witness/node.tags"], apart := false, laid := [("witness/node.tags", laid_witness_node_tags)] }
def NodeTextsSaid : Prop := nodeTextsRow.holds Tryd.pinned (OpenSpec.ofChange nodeTextsSpec)

/-- ITS FALSE NEIGHBOUR: 'it returns false'. Refute it at one input. -/
def nodeTextsWrong : ChangeSpec := { name := "nodeTexts", fn := fun _ => fun
  | [d1, d2, d3, d4] => { results := [.lit (.bool false)], args := [d1, d2, d3, d4] }
  | _ => none }
def NodeTextsWrongFalsely : Prop := nodeTextsRow.holds Tryd.pinned (OpenSpec.ofChange nodeTextsWrong)

/-- 'witnesslaw7.NodeSorts': WHATEVER THE INPUT: true; the input reads as it did. -/
def nodeSortsSpec : ChangeSpec := { name := "nodeSorts", fn := fun _ => fun
  | [d1, d2, d3, d4, d5] => { results := [.lit (.bool true)], args := [d1, d2, d3, d4, d5] }
  | _ => none }
def nodeSortsRow : OpenClaim := { program := "ytkklgmhmhhbjkaadoor", sum := "82d1fb2310a34fc2b68327297a518ec120e99d5776361f5e89bcacdf4760f7b9", func := "witness/witnesslaw7.NodeSorts", spec := "nodeSorts", named := ["witness/node.tags"], apart := false, laid := [("witness/node.tags", laid_witness_node_tags)] }
def NodeSortsSaid : Prop := nodeSortsRow.holds Tryd.pinned (OpenSpec.ofChange nodeSortsSpec)

/-- ITS FALSE NEIGHBOUR: 'it returns false'. Refute it at one input. -/
def nodeSortsWrong : ChangeSpec := { name := "nodeSorts", fn := fun _ => fun
  | [d1, d2, d3, d4, d5] => { results := [.lit (.bool false)], args := [d1, d2, d3, d4, d5] }
  | _ => none }
def NodeSortsWrongFalsely : Prop := nodeSortsRow.holds Tryd.pinned (OpenSpec.ofChange nodeSortsWrong)

/-- 'witnesslaw7.NodeHeights': WHATEVER THE INPUT: true; the input reads as it did. -/
def nodeHeightsSpec : ChangeSpec := { name := "nodeHeights", fn := fun _ => fun
  | [d] => { results := [.lit (.bool true)], args := [d] }
  | _ => none }
def nodeHeightsRow : OpenClaim := { program := "ytkklgmhmhhbjkaadoor", sum := "82d1fb2310a34fc2b68327297a518ec120e99d5776361f5e89bcacdf4760f7b9", func := "witness/witnesslaw7.NodeHeights", spec := "nodeHeights", named := ["witness/node.tags", "witness/digest.first", "witness/digest.rounds"], apart := false, laid := [("witness/digest.rounds", laid_witness_digest_rounds), ("witness/digest.first", laid_witness_digest_first), ("witness/node.tags", laid_witness_node_tags)] }
def NodeHeightsSaid : Prop := nodeHeightsRow.holds Tryd.pinned (OpenSpec.ofChange nodeHeightsSpec)

/-- ITS FALSE NEIGHBOUR: 'it returns false'. Refute it at one input. -/
def nodeHeightsWrong : ChangeSpec := { name := "nodeHeights", fn := fun _ => fun
  | [d] => { results := [.lit (.bool false)], args := [d] }
  | _ => none }
def NodeHeightsWrongFalsely : Prop := nodeHeightsRow.holds Tryd.pinned (OpenSpec.ofChange nodeHeightsWrong)

/-- 'witnesslaw7.NodeValids': WHATEVER THE INPUT: true; the input reads as it did. -/
def nodeValidsSpec : ChangeSpec := { name := "nodeValids", fn := fun _ => fun
  | [d] => { results := [.lit (.bool true)], args := [d] }
  | _ => none }
def nodeValidsRow : OpenClaim := { program := "ytkklgmhmhhbjkaadoor", sum := "82d1fb2310a34fc2b68327297a518ec120e99d5776361f5e89bcacdf4760f7b9", func := "witness/witnesslaw7.NodeValids", spec := "nodeValids", inPlace := ["internal/bytealg.Compare"], named := ["witness/node.tags", "witness/digest.first", "witness/digest.rounds"], apart := false, laid := [("witness/digest.rounds", laid_witness_digest_rounds), ("witness/digest.first", laid_witness_digest_first), ("witness/node.tags", laid_witness_node_tags)] }
def NodeValidsSaid : Prop := nodeValidsRow.holds Tryd.pinned (OpenSpec.ofChange nodeValidsSpec)

/-- ITS FALSE NEIGHBOUR: 'it returns false'. Refute it at one input. -/
def nodeValidsWrong : ChangeSpec := { name := "nodeValids", fn := fun _ => fun
  | [d] => { results := [.lit (.bool false)], args := [d] }
  | _ => none }
def NodeValidsWrongFalsely : Prop := nodeValidsRow.holds Tryd.pinned (OpenSpec.ofChange nodeValidsWrong)

/-- 'witnesslaw7.NodeLabels': WHATEVER THE INPUT: true; the input reads as it did. -/
def nodeLabelsSpec : ChangeSpec := { name := "nodeLabels", fn := fun _ => fun
  | [d1, d2] => { results := [.lit (.bool true)], args := [d1, d2] }
  | _ => none }
def nodeLabelsRow : OpenClaim := { program := "ytkklgmhmhhbjkaadoor", sum := "82d1fb2310a34fc2b68327297a518ec120e99d5776361f5e89bcacdf4760f7b9", func := "witness/witnesslaw7.NodeLabels", spec := "nodeLabels", unfollowed := true, recurses := true, named := ["witness/node.tags", "witness/digest.first", "witness/digest.rounds"], apart := false, laid := [("witness/digest.rounds", laid_witness_digest_rounds), ("witness/digest.first", laid_witness_digest_first), ("witness/node.tags", laid_witness_node_tags)] }
def NodeLabelsSaid : Prop := nodeLabelsRow.holds Tryd.pinned (OpenSpec.ofChange nodeLabelsSpec)

/-- ITS FALSE NEIGHBOUR: 'it returns false'. Refute it at one input. -/
def nodeLabelsWrong : ChangeSpec := { name := "nodeLabels", fn := fun _ => fun
  | [d1, d2] => { results := [.lit (.bool false)], args := [d1, d2] }
  | _ => none }
def NodeLabelsWrongFalsely : Prop := nodeLabelsRow.holds Tryd.pinned (OpenSpec.ofChange nodeLabelsWrong)

/-- 'witnesslaw7.NodeRoots': WHATEVER THE INPUT: true; the input reads as it did. -/
def nodeRootsSpec : ChangeSpec := { name := "nodeRoots", fn := fun _ => fun
  | [d] => { results := [.lit (.bool true)], args := [d] }
  | _ => none }
def nodeRootsRow : OpenClaim := { program := "ytkklgmhmhhbjkaadoor", sum := "82d1fb2310a34fc2b68327297a518ec120e99d5776361f5e89bcacdf4760f7b9", func := "witness/witnesslaw7.NodeRoots", spec := "nodeRoots", inPlace := ["internal/bytealg.Compare"], unfollowed := true, recurses := true, named := ["witness/node.tags", "witness/digest.first", "witness/digest.rounds"], apart := false, laid := [("witness/digest.rounds", laid_witness_digest_rounds), ("witness/digest.first", laid_witness_digest_first), ("witness/node.tags", laid_witness_node_tags)] }
def NodeRootsSaid : Prop := nodeRootsRow.holds Tryd.pinned (OpenSpec.ofChange nodeRootsSpec)

/-- ITS FALSE NEIGHBOUR: 'it returns false'. Refute it at one input. -/
def nodeRootsWrong : ChangeSpec := { name := "nodeRoots", fn := fun _ => fun
  | [d] => { results := [.lit (.bool false)], args := [d] }
  | _ => none }
def NodeRootsWrongFalsely : Prop := nodeRootsRow.holds Tryd.pinned (OpenSpec.ofChange nodeRootsWrong)

/-- 'witnesslaw7.NodeWhole': WHATEVER THE INPUT: true; the input reads as it did. -/
def nodeWholeSpec : ChangeSpec := { name := "nodeWhole", fn := fun _ => fun
  | [d] => { results := [.lit (.bool true)], args := [d] }
  | _ => none }
def nodeWholeRow : OpenClaim := { program := "ytkklgmhmhhbjkaadoor", sum := "82d1fb2310a34fc2b68327297a518ec120e99d5776361f5e89bcacdf4760f7b9", func := "witness/witnesslaw7.NodeWhole", spec := "nodeWhole", inPlace := ["internal/bytealg.Compare"], unfollowed := true, recurses := true, named := ["witness/node.tags", "witness/digest.first", "witness/digest.rounds"], apart := false, laid := [("witness/digest.rounds", laid_witness_digest_rounds), ("witness/digest.first", laid_witness_digest_first), ("witness/node.tags", laid_witness_node_tags)] }
def NodeWholeSaid : Prop := nodeWholeRow.holds Tryd.pinned (OpenSpec.ofChange nodeWholeSpec)

/-- ITS FALSE NEIGHBOUR: 'it returns false'. Refute it at one input. -/
def nodeWholeWrong : ChangeSpec := { name := "nodeWhole", fn := fun _ => fun
  | [d] => { results := [.lit (.bool false)], args := [d] }
  | _ => none }
def NodeWholeWrongFalsely : Prop := nodeWholeRow.holds Tryd.pinned (OpenSpec.ofChange nodeWholeWrong)

/- THE SECOND FORM. 'bulk': how many values and letters a reading holds, each counted each time it is reached (what is shared counts as often as it is met; a slice's spare places count too). A statement '..UptoSaid' is the law's where the arguments, and the package variables that the reading takes, are together of bulk at most 1048576: NARROWER than '..Said'. Prove '..Said' where nothing that the law and all that it calls make is longer than what came in: it says more and counts as full. Else prove '..UptoSaid'. A law counts once. -/
mutual
def uptoBulk {H : Type} : DataW H → Nat
  | .lit (.string bytes) => bytes.length + 1
  | .lit _ => 1
  | .nil => 1
  | .ptr d => uptoBulk d + 1
  | .slice elems spare => uptoBulkAll elems + uptoBulkAll spare + 1
  | .agg parts => uptoBulkAll parts + 1
  | .iface _ d => uptoBulk d + 1
  | .map entries => uptoBulkEntries entries + 1
  | .held _ => 1
def uptoBulkAll {H : Type} : List (DataW H) → Nat
  | [] => 0
  | d :: r => uptoBulk d + uptoBulkAll r
def uptoBulkEntries {H : Type} : List (Lit × DataW H) → Nat
  | [] => 0
  | x :: r => uptoBulkEntry x + uptoBulkEntries r
def uptoBulkEntry {H : Type} : Lit × DataW H → Nat
  | (.string bytes, d) => bytes.length + uptoBulk d + 1
  | (_, d) => uptoBulk d + 1
 end
def uptoSmall : (H : Type) → List (DataW H) → Bool := fun _ ds => decide (uptoBulkAll ds ≤ 1048576)
def OpenSpec.upto (s : _root_.Go.ChangeSpec) : _root_.Go.OpenSpec := { _root_.Go.OpenSpec.ofChange s with cond := some uptoSmall }

/-- 'witnesslaw7.NodeTexts', WHERE WHAT IT READS IS OF BULK AT MOST 1048576: true; the input reads as it did. -/
def nodeTextsUptoRow : OpenClaim := { program := "ytkklgmhmhhbjkaadoor", sum := "82d1fb2310a34fc2b68327297a518ec120e99d5776361f5e89bcacdf4760f7b9", func := "witness/witnesslaw7.NodeTexts", spec := "nodeTexts", named := ["witness/node.tags"], apart := false, laid := [("witness/node.tags", laid_witness_node_tags)], narrowed := true }
def NodeTextsUptoSaid : Prop := nodeTextsUptoRow.holds Tryd.pinned (OpenSpec.upto nodeTextsSpec)

/-- 'witnesslaw7.NodeSorts', WHERE WHAT IT READS IS OF BULK AT MOST 1048576: true; the input reads as it did. -/
def nodeSortsUptoRow : OpenClaim := { program := "ytkklgmhmhhbjkaadoor", sum := "82d1fb2310a34fc2b68327297a518ec120e99d5776361f5e89bcacdf4760f7b9", func := "witness/witnesslaw7.NodeSorts", spec := "nodeSorts", named := ["witness/node.tags"], apart := false, laid := [("witness/node.tags", laid_witness_node_tags)], narrowed := true }
def NodeSortsUptoSaid : Prop := nodeSortsUptoRow.holds Tryd.pinned (OpenSpec.upto nodeSortsSpec)

/-- 'witnesslaw7.NodeHeights', WHERE WHAT IT READS IS OF BULK AT MOST 1048576: true; the input reads as it did. -/
def nodeHeightsUptoRow : OpenClaim := { program := "ytkklgmhmhhbjkaadoor", sum := "82d1fb2310a34fc2b68327297a518ec120e99d5776361f5e89bcacdf4760f7b9", func := "witness/witnesslaw7.NodeHeights", spec := "nodeHeights", named := ["witness/node.tags", "witness/digest.first", "witness/digest.rounds"], apart := false, laid := [("witness/digest.rounds", laid_witness_digest_rounds), ("witness/digest.first", laid_witness_digest_first), ("witness/node.tags", laid_witness_node_tags)], narrowed := true }
def NodeHeightsUptoSaid : Prop := nodeHeightsUptoRow.holds Tryd.pinned (OpenSpec.upto nodeHeightsSpec)

/-- 'witnesslaw7.NodeValids', WHERE WHAT IT READS IS OF BULK AT MOST 1048576: true; the input reads as it did. -/
def nodeValidsUptoRow : OpenClaim := { program := "ytkklgmhmhhbjkaadoor", sum := "82d1fb2310a34fc2b68327297a518ec120e99d5776361f5e89bcacdf4760f7b9", func := "witness/witnesslaw7.NodeValids", spec := "nodeValids", inPlace := ["internal/bytealg.Compare"], named := ["witness/node.tags", "witness/digest.first", "witness/digest.rounds"], apart := false, laid := [("witness/digest.rounds", laid_witness_digest_rounds), ("witness/digest.first", laid_witness_digest_first), ("witness/node.tags", laid_witness_node_tags)], narrowed := true }
def NodeValidsUptoSaid : Prop := nodeValidsUptoRow.holds Tryd.pinned (OpenSpec.upto nodeValidsSpec)

/-- 'witnesslaw7.NodeLabels', WHERE WHAT IT READS IS OF BULK AT MOST 1048576: true; the input reads as it did. -/
def nodeLabelsUptoRow : OpenClaim := { program := "ytkklgmhmhhbjkaadoor", sum := "82d1fb2310a34fc2b68327297a518ec120e99d5776361f5e89bcacdf4760f7b9", func := "witness/witnesslaw7.NodeLabels", spec := "nodeLabels", unfollowed := true, recurses := true, named := ["witness/node.tags", "witness/digest.first", "witness/digest.rounds"], apart := false, laid := [("witness/digest.rounds", laid_witness_digest_rounds), ("witness/digest.first", laid_witness_digest_first), ("witness/node.tags", laid_witness_node_tags)], narrowed := true }
def NodeLabelsUptoSaid : Prop := nodeLabelsUptoRow.holds Tryd.pinned (OpenSpec.upto nodeLabelsSpec)

/-- 'witnesslaw7.NodeRoots', WHERE WHAT IT READS IS OF BULK AT MOST 1048576: true; the input reads as it did. -/
def nodeRootsUptoRow : OpenClaim := { program := "ytkklgmhmhhbjkaadoor", sum := "82d1fb2310a34fc2b68327297a518ec120e99d5776361f5e89bcacdf4760f7b9", func := "witness/witnesslaw7.NodeRoots", spec := "nodeRoots", inPlace := ["internal/bytealg.Compare"], unfollowed := true, recurses := true, named := ["witness/node.tags", "witness/digest.first", "witness/digest.rounds"], apart := false, laid := [("witness/digest.rounds", laid_witness_digest_rounds), ("witness/digest.first", laid_witness_digest_first), ("witness/node.tags", laid_witness_node_tags)], narrowed := true }
def NodeRootsUptoSaid : Prop := nodeRootsUptoRow.holds Tryd.pinned (OpenSpec.upto nodeRootsSpec)

/-- 'witnesslaw7.NodeWhole', WHERE WHAT IT READS IS OF BULK AT MOST 1048576: true; the input reads as it did. -/
def nodeWholeUptoRow : OpenClaim := { program := "ytkklgmhmhhbjkaadoor", sum := "82d1fb2310a34fc2b68327297a518ec120e99d5776361f5e89bcacdf4760f7b9", func := "witness/witnesslaw7.NodeWhole", spec := "nodeWhole", inPlace := ["internal/bytealg.Compare"], unfollowed := true, recurses := true, named := ["witness/node.tags", "witness/digest.first", "witness/digest.rounds"], apart := false, laid := [("witness/digest.rounds", laid_witness_digest_rounds), ("witness/digest.first", laid_witness_digest_first), ("witness/node.tags", laid_witness_node_tags)], narrowed := true }
def NodeWholeUptoSaid : Prop := nodeWholeUptoRow.holds Tryd.pinned (OpenSpec.upto nodeWholeSpec)

end Rows
end Go.Proofs.YtkklgmhmhhbjkaaDoor
