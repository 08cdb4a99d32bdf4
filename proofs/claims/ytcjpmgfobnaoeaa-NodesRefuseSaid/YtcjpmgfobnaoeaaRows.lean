/-
  NARROWER THAN 'FOR EVERY INPUT', by the rows' own cells (each row's printed sentence says how): CursorTells: loops · CursorAll: loops · NodesStay: loops · FindPath: loops · NodesAdd: loops · NodesWithin: loops · NodesTell: loops · NodesSame: loops · FindTells: loops · FindDeepest: loops · FindSame: loops · CursorChain: loops · CursorCovers: loops · FindLeaves: loops · NodesNone: loops.
  DERIVED. THE GIVEN ROWS OF THIS SEAT. 16 by the template 'for every input the law returns true; each argument reads behind the call as it read before'; 0 by the template 'total and deterministic' (their statements: YtcjpmgfobnaoeaaTotals.lean).
  GIVEN WITH THE SEED: the statements are not yours to turn. If you find one false, say at which input.
  Laid BY PROGRAM, IN A SANDBOX (cutbox-rows.mjs): the forced cells as the released guide's own fill.sh prints them over the translation fa3352baa0c7c5f0… (all of the seat's roots in one cut). By AI agents, Wed Nov 11 2026. No macro, syntax, notation, axiom, sorry.
-/
import Derived.Test.YtcjpmgfobnaoeaaChecked
import GoSem.Claim
import GoSem.ClaimJoined
import GoSem.ClaimMapViews
import Derived.JoinedTies
import Derived.KernelRfl
namespace Go.Proofs.Ytcjpmgfobnaoeaa
/- THE CELL 'sum', in the pinned program and in every row, IS THE sha256 OF THE DUMP (.gsa) THAT YtcjpmgfobnaoeaaProg.lean LOADS. Nothing in Lean hashes anything: it is a label: what it is worth is what the hold of that sum in a sandbox is worth. -/
noncomputable def Try.pinned : Pinned := { name := "ytcjpmgfobnaoeaa", sum := "fa3352baa0c7c5f0d9c84ce04df548ab6f4794d646f4ef69eb2b4b3af9830ee9", checked := Try.checked }
namespace Rows
def none {H : Type} : Left H := { results := [], args := [] }

/-- 'rootstocklaw22.CursorTells': WHATEVER THE INPUT: true; the input reads as it did. -/
def cursorTellsSpec : ChangeSpec := { name := "cursorTells", fn := fun _ => fun
  | [d1, d2] => { results := [.lit (.bool true)], args := [d1, d2] }
  | _ => none }
def cursorTellsRow : OpenClaim := { program := "ytcjpmgfobnaoeaa", sum := "fa3352baa0c7c5f0d9c84ce04df548ab6f4794d646f4ef69eb2b4b3af9830ee9", func := "rootstock/rootstocklaw22.CursorTells", spec := "cursorTells", unfollowed := true, recurses := true, loops := true, apart := false }
def CursorTellsSaid : Prop := cursorTellsRow.holds Try.pinned (OpenSpec.ofChange cursorTellsSpec)

/-- ITS FALSE NEIGHBOUR: 'it returns false'. Refute it at one input. -/
def cursorTellsWrong : ChangeSpec := { name := "cursorTells", fn := fun _ => fun
  | [d1, d2] => { results := [.lit (.bool false)], args := [d1, d2] }
  | _ => none }
def CursorTellsWrongFalsely : Prop := cursorTellsRow.holds Try.pinned (OpenSpec.ofChange cursorTellsWrong)

/-- 'rootstocklaw22.CursorAll': WHATEVER THE INPUT: true; the input reads as it did. -/
def cursorAllSpec : ChangeSpec := { name := "cursorAll", fn := fun _ => fun
  | [d1, d2, d3] => { results := [.lit (.bool true)], args := [d1, d2, d3] }
  | _ => none }
def cursorAllRow : OpenClaim := { program := "ytcjpmgfobnaoeaa", sum := "fa3352baa0c7c5f0d9c84ce04df548ab6f4794d646f4ef69eb2b4b3af9830ee9", func := "rootstock/rootstocklaw22.CursorAll", spec := "cursorAll", unfollowed := true, recurses := true, loops := true, apart := false }
def CursorAllSaid : Prop := cursorAllRow.holds Try.pinned (OpenSpec.ofChange cursorAllSpec)

/-- ITS FALSE NEIGHBOUR: 'it returns false'. Refute it at one input. -/
def cursorAllWrong : ChangeSpec := { name := "cursorAll", fn := fun _ => fun
  | [d1, d2, d3] => { results := [.lit (.bool false)], args := [d1, d2, d3] }
  | _ => none }
def CursorAllWrongFalsely : Prop := cursorAllRow.holds Try.pinned (OpenSpec.ofChange cursorAllWrong)

/-- 'rootstocklaw20.NodesStay': WHATEVER THE INPUT: true; the input reads as it did. -/
def nodesStaySpec : ChangeSpec := { name := "nodesStay", fn := fun _ => fun
  | [d1, d2] => { results := [.lit (.bool true)], args := [d1, d2] }
  | _ => none }
def nodesStayRow : OpenClaim := { program := "ytcjpmgfobnaoeaa", sum := "fa3352baa0c7c5f0d9c84ce04df548ab6f4794d646f4ef69eb2b4b3af9830ee9", func := "rootstock/rootstocklaw20.NodesStay", spec := "nodesStay", unfollowed := true, recurses := true, loops := true, apart := false }
def NodesStaySaid : Prop := nodesStayRow.holds Try.pinned (OpenSpec.ofChange nodesStaySpec)

/-- ITS FALSE NEIGHBOUR: 'it returns false'. Refute it at one input. -/
def nodesStayWrong : ChangeSpec := { name := "nodesStay", fn := fun _ => fun
  | [d1, d2] => { results := [.lit (.bool false)], args := [d1, d2] }
  | _ => none }
def NodesStayWrongFalsely : Prop := nodesStayRow.holds Try.pinned (OpenSpec.ofChange nodesStayWrong)

/-- 'rootstocklaw25.FindPath': WHATEVER THE INPUT: true; the input reads as it did. -/
def findPathSpec : ChangeSpec := { name := "findPath", fn := fun _ => fun
  | [d1, d2] => { results := [.lit (.bool true)], args := [d1, d2] }
  | _ => none }
def findPathRow : OpenClaim := { program := "ytcjpmgfobnaoeaa", sum := "fa3352baa0c7c5f0d9c84ce04df548ab6f4794d646f4ef69eb2b4b3af9830ee9", func := "rootstock/rootstocklaw25.FindPath", spec := "findPath", unfollowed := true, recurses := true, loops := true, apart := false }
def FindPathSaid : Prop := findPathRow.holds Try.pinned (OpenSpec.ofChange findPathSpec)

/-- ITS FALSE NEIGHBOUR: 'it returns false'. Refute it at one input. -/
def findPathWrong : ChangeSpec := { name := "findPath", fn := fun _ => fun
  | [d1, d2] => { results := [.lit (.bool false)], args := [d1, d2] }
  | _ => none }
def FindPathWrongFalsely : Prop := findPathRow.holds Try.pinned (OpenSpec.ofChange findPathWrong)

/-- 'rootstocklaw20.NodesAdd': WHATEVER THE INPUT: true; the input reads as it did. -/
def nodesAddSpec : ChangeSpec := { name := "nodesAdd", fn := fun _ => fun
  | [d] => { results := [.lit (.bool true)], args := [d] }
  | _ => none }
def nodesAddRow : OpenClaim := { program := "ytcjpmgfobnaoeaa", sum := "fa3352baa0c7c5f0d9c84ce04df548ab6f4794d646f4ef69eb2b4b3af9830ee9", func := "rootstock/rootstocklaw20.NodesAdd", spec := "nodesAdd", unfollowed := true, recurses := true, loops := true, apart := false }
def NodesAddSaid : Prop := nodesAddRow.holds Try.pinned (OpenSpec.ofChange nodesAddSpec)

/-- ITS FALSE NEIGHBOUR: 'it returns false'. Refute it at one input. -/
def nodesAddWrong : ChangeSpec := { name := "nodesAdd", fn := fun _ => fun
  | [d] => { results := [.lit (.bool false)], args := [d] }
  | _ => none }
def NodesAddWrongFalsely : Prop := nodesAddRow.holds Try.pinned (OpenSpec.ofChange nodesAddWrong)

/-- 'rootstocklaw20.NodesWithin': WHATEVER THE INPUT: true; the input reads as it did. -/
def nodesWithinSpec : ChangeSpec := { name := "nodesWithin", fn := fun _ => fun
  | [d] => { results := [.lit (.bool true)], args := [d] }
  | _ => none }
def nodesWithinRow : OpenClaim := { program := "ytcjpmgfobnaoeaa", sum := "fa3352baa0c7c5f0d9c84ce04df548ab6f4794d646f4ef69eb2b4b3af9830ee9", func := "rootstock/rootstocklaw20.NodesWithin", spec := "nodesWithin", unfollowed := true, recurses := true, loops := true, apart := false }
def NodesWithinSaid : Prop := nodesWithinRow.holds Try.pinned (OpenSpec.ofChange nodesWithinSpec)

/-- ITS FALSE NEIGHBOUR: 'it returns false'. Refute it at one input. -/
def nodesWithinWrong : ChangeSpec := { name := "nodesWithin", fn := fun _ => fun
  | [d] => { results := [.lit (.bool false)], args := [d] }
  | _ => none }
def NodesWithinWrongFalsely : Prop := nodesWithinRow.holds Try.pinned (OpenSpec.ofChange nodesWithinWrong)

/-- 'rootstocklaw20.NodesRefuse': WHATEVER THE INPUT: true; the input reads as it did. -/
def nodesRefuseSpec : ChangeSpec := { name := "nodesRefuse", fn := fun _ => fun
  | [d] => { results := [.lit (.bool true)], args := [d] }
  | _ => none }
def nodesRefuseRow : OpenClaim := { program := "ytcjpmgfobnaoeaa", sum := "fa3352baa0c7c5f0d9c84ce04df548ab6f4794d646f4ef69eb2b4b3af9830ee9", func := "rootstock/rootstocklaw20.NodesRefuse", spec := "nodesRefuse", unfollowed := true, recurses := true, apart := false }
def NodesRefuseSaid : Prop := nodesRefuseRow.holds Try.pinned (OpenSpec.ofChange nodesRefuseSpec)

/-- ITS FALSE NEIGHBOUR: 'it returns false'. Refute it at one input. -/
def nodesRefuseWrong : ChangeSpec := { name := "nodesRefuse", fn := fun _ => fun
  | [d] => { results := [.lit (.bool false)], args := [d] }
  | _ => none }
def NodesRefuseWrongFalsely : Prop := nodesRefuseRow.holds Try.pinned (OpenSpec.ofChange nodesRefuseWrong)

/-- 'rootstocklaw20.NodesTell': WHATEVER THE INPUT: true; the input reads as it did. -/
def nodesTellSpec : ChangeSpec := { name := "nodesTell", fn := fun _ => fun
  | [d] => { results := [.lit (.bool true)], args := [d] }
  | _ => none }
def nodesTellRow : OpenClaim := { program := "ytcjpmgfobnaoeaa", sum := "fa3352baa0c7c5f0d9c84ce04df548ab6f4794d646f4ef69eb2b4b3af9830ee9", func := "rootstock/rootstocklaw20.NodesTell", spec := "nodesTell", unfollowed := true, recurses := true, loops := true, apart := false }
def NodesTellSaid : Prop := nodesTellRow.holds Try.pinned (OpenSpec.ofChange nodesTellSpec)

/-- ITS FALSE NEIGHBOUR: 'it returns false'. Refute it at one input. -/
def nodesTellWrong : ChangeSpec := { name := "nodesTell", fn := fun _ => fun
  | [d] => { results := [.lit (.bool false)], args := [d] }
  | _ => none }
def NodesTellWrongFalsely : Prop := nodesTellRow.holds Try.pinned (OpenSpec.ofChange nodesTellWrong)

/-- 'rootstocklaw20.NodesSame': WHATEVER THE INPUT: true; the input reads as it did. -/
def nodesSameSpec : ChangeSpec := { name := "nodesSame", fn := fun _ => fun
  | [d1, d2] => { results := [.lit (.bool true)], args := [d1, d2] }
  | _ => none }
def nodesSameRow : OpenClaim := { program := "ytcjpmgfobnaoeaa", sum := "fa3352baa0c7c5f0d9c84ce04df548ab6f4794d646f4ef69eb2b4b3af9830ee9", func := "rootstock/rootstocklaw20.NodesSame", spec := "nodesSame", unfollowed := true, recurses := true, loops := true, apart := false }
def NodesSameSaid : Prop := nodesSameRow.holds Try.pinned (OpenSpec.ofChange nodesSameSpec)

/-- ITS FALSE NEIGHBOUR: 'it returns false'. Refute it at one input. -/
def nodesSameWrong : ChangeSpec := { name := "nodesSame", fn := fun _ => fun
  | [d1, d2] => { results := [.lit (.bool false)], args := [d1, d2] }
  | _ => none }
def NodesSameWrongFalsely : Prop := nodesSameRow.holds Try.pinned (OpenSpec.ofChange nodesSameWrong)

/-- 'rootstocklaw25.FindTells': WHATEVER THE INPUT: true; the input reads as it did. -/
def findTellsSpec : ChangeSpec := { name := "findTells", fn := fun _ => fun
  | [d1, d2] => { results := [.lit (.bool true)], args := [d1, d2] }
  | _ => none }
def findTellsRow : OpenClaim := { program := "ytcjpmgfobnaoeaa", sum := "fa3352baa0c7c5f0d9c84ce04df548ab6f4794d646f4ef69eb2b4b3af9830ee9", func := "rootstock/rootstocklaw25.FindTells", spec := "findTells", unfollowed := true, recurses := true, loops := true, apart := false }
def FindTellsSaid : Prop := findTellsRow.holds Try.pinned (OpenSpec.ofChange findTellsSpec)

/-- ITS FALSE NEIGHBOUR: 'it returns false'. Refute it at one input. -/
def findTellsWrong : ChangeSpec := { name := "findTells", fn := fun _ => fun
  | [d1, d2] => { results := [.lit (.bool false)], args := [d1, d2] }
  | _ => none }
def FindTellsWrongFalsely : Prop := findTellsRow.holds Try.pinned (OpenSpec.ofChange findTellsWrong)

/-- 'rootstocklaw25.FindDeepest': WHATEVER THE INPUT: true; the input reads as it did. -/
def findDeepestSpec : ChangeSpec := { name := "findDeepest", fn := fun _ => fun
  | [d1, d2] => { results := [.lit (.bool true)], args := [d1, d2] }
  | _ => none }
def findDeepestRow : OpenClaim := { program := "ytcjpmgfobnaoeaa", sum := "fa3352baa0c7c5f0d9c84ce04df548ab6f4794d646f4ef69eb2b4b3af9830ee9", func := "rootstock/rootstocklaw25.FindDeepest", spec := "findDeepest", unfollowed := true, recurses := true, loops := true, apart := false }
def FindDeepestSaid : Prop := findDeepestRow.holds Try.pinned (OpenSpec.ofChange findDeepestSpec)

/-- ITS FALSE NEIGHBOUR: 'it returns false'. Refute it at one input. -/
def findDeepestWrong : ChangeSpec := { name := "findDeepest", fn := fun _ => fun
  | [d1, d2] => { results := [.lit (.bool false)], args := [d1, d2] }
  | _ => none }
def FindDeepestWrongFalsely : Prop := findDeepestRow.holds Try.pinned (OpenSpec.ofChange findDeepestWrong)

/-- 'rootstocklaw25.FindSame': WHATEVER THE INPUT: true; the input reads as it did. -/
def findSameSpec : ChangeSpec := { name := "findSame", fn := fun _ => fun
  | [d1, d2] => { results := [.lit (.bool true)], args := [d1, d2] }
  | _ => none }
def findSameRow : OpenClaim := { program := "ytcjpmgfobnaoeaa", sum := "fa3352baa0c7c5f0d9c84ce04df548ab6f4794d646f4ef69eb2b4b3af9830ee9", func := "rootstock/rootstocklaw25.FindSame", spec := "findSame", unfollowed := true, recurses := true, loops := true, apart := false }
def FindSameSaid : Prop := findSameRow.holds Try.pinned (OpenSpec.ofChange findSameSpec)

/-- ITS FALSE NEIGHBOUR: 'it returns false'. Refute it at one input. -/
def findSameWrong : ChangeSpec := { name := "findSame", fn := fun _ => fun
  | [d1, d2] => { results := [.lit (.bool false)], args := [d1, d2] }
  | _ => none }
def FindSameWrongFalsely : Prop := findSameRow.holds Try.pinned (OpenSpec.ofChange findSameWrong)

/-- 'rootstocklaw22.CursorChain': WHATEVER THE INPUT: true; the input reads as it did. -/
def cursorChainSpec : ChangeSpec := { name := "cursorChain", fn := fun _ => fun
  | [d1, d2] => { results := [.lit (.bool true)], args := [d1, d2] }
  | _ => none }
def cursorChainRow : OpenClaim := { program := "ytcjpmgfobnaoeaa", sum := "fa3352baa0c7c5f0d9c84ce04df548ab6f4794d646f4ef69eb2b4b3af9830ee9", func := "rootstock/rootstocklaw22.CursorChain", spec := "cursorChain", unfollowed := true, recurses := true, loops := true, apart := false }
def CursorChainSaid : Prop := cursorChainRow.holds Try.pinned (OpenSpec.ofChange cursorChainSpec)

/-- ITS FALSE NEIGHBOUR: 'it returns false'. Refute it at one input. -/
def cursorChainWrong : ChangeSpec := { name := "cursorChain", fn := fun _ => fun
  | [d1, d2] => { results := [.lit (.bool false)], args := [d1, d2] }
  | _ => none }
def CursorChainWrongFalsely : Prop := cursorChainRow.holds Try.pinned (OpenSpec.ofChange cursorChainWrong)

/-- 'rootstocklaw22.CursorCovers': WHATEVER THE INPUT: true; the input reads as it did. -/
def cursorCoversSpec : ChangeSpec := { name := "cursorCovers", fn := fun _ => fun
  | [d1, d2] => { results := [.lit (.bool true)], args := [d1, d2] }
  | _ => none }
def cursorCoversRow : OpenClaim := { program := "ytcjpmgfobnaoeaa", sum := "fa3352baa0c7c5f0d9c84ce04df548ab6f4794d646f4ef69eb2b4b3af9830ee9", func := "rootstock/rootstocklaw22.CursorCovers", spec := "cursorCovers", unfollowed := true, recurses := true, loops := true, apart := false }
def CursorCoversSaid : Prop := cursorCoversRow.holds Try.pinned (OpenSpec.ofChange cursorCoversSpec)

/-- ITS FALSE NEIGHBOUR: 'it returns false'. Refute it at one input. -/
def cursorCoversWrong : ChangeSpec := { name := "cursorCovers", fn := fun _ => fun
  | [d1, d2] => { results := [.lit (.bool false)], args := [d1, d2] }
  | _ => none }
def CursorCoversWrongFalsely : Prop := cursorCoversRow.holds Try.pinned (OpenSpec.ofChange cursorCoversWrong)

/-- 'rootstocklaw25.FindLeaves': WHATEVER THE INPUT: true; the input reads as it did. -/
def findLeavesSpec : ChangeSpec := { name := "findLeaves", fn := fun _ => fun
  | [d1, d2] => { results := [.lit (.bool true)], args := [d1, d2] }
  | _ => none }
def findLeavesRow : OpenClaim := { program := "ytcjpmgfobnaoeaa", sum := "fa3352baa0c7c5f0d9c84ce04df548ab6f4794d646f4ef69eb2b4b3af9830ee9", func := "rootstock/rootstocklaw25.FindLeaves", spec := "findLeaves", unfollowed := true, recurses := true, loops := true, apart := false }
def FindLeavesSaid : Prop := findLeavesRow.holds Try.pinned (OpenSpec.ofChange findLeavesSpec)

/-- ITS FALSE NEIGHBOUR: 'it returns false'. Refute it at one input. -/
def findLeavesWrong : ChangeSpec := { name := "findLeaves", fn := fun _ => fun
  | [d1, d2] => { results := [.lit (.bool false)], args := [d1, d2] }
  | _ => none }
def FindLeavesWrongFalsely : Prop := findLeavesRow.holds Try.pinned (OpenSpec.ofChange findLeavesWrong)

/-- 'rootstocklaw20.NodesNone': WHATEVER THE INPUT: true; the input reads as it did. -/
def nodesNoneSpec : ChangeSpec := { name := "nodesNone", fn := fun _ => fun
  | [d] => { results := [.lit (.bool true)], args := [d] }
  | _ => none }
def nodesNoneRow : OpenClaim := { program := "ytcjpmgfobnaoeaa", sum := "fa3352baa0c7c5f0d9c84ce04df548ab6f4794d646f4ef69eb2b4b3af9830ee9", func := "rootstock/rootstocklaw20.NodesNone", spec := "nodesNone", unfollowed := true, recurses := true, loops := true, apart := false }
def NodesNoneSaid : Prop := nodesNoneRow.holds Try.pinned (OpenSpec.ofChange nodesNoneSpec)

/-- ITS FALSE NEIGHBOUR: 'it returns false'. Refute it at one input. -/
def nodesNoneWrong : ChangeSpec := { name := "nodesNone", fn := fun _ => fun
  | [d] => { results := [.lit (.bool false)], args := [d] }
  | _ => none }
def NodesNoneWrongFalsely : Prop := nodesNoneRow.holds Try.pinned (OpenSpec.ofChange nodesNoneWrong)

/- THE SECOND FORM. 'bulk': how many values and letters a reading holds, each counted each time it is reached (what is shared counts as often as it is met; a slice's spare places count too). A statement '..UptoSaid' is the law's where the arguments, and the package variables that the reading takes, are together of bulk at most 1048576: NARROWER than '..Said'. Prove '..Said' where nothing that the law and all that it calls make is longer than what came in: it says more and counts as full. Else prove '..UptoSaid'. A law counts once. -/
mutual
def uptoBulk {H : Type} : DataW H → Nat
  | .lit (.string bytes) => bytes.length + 1
  | .lit _ => 1
  | .nil => 1
  | .ptr d => uptoBulk d + 1
  | .slice elems spare => uptoBulkAll elems + uptoBulkAll spare + 1
  | .agg parts => uptoBulkAll parts + 1
  | .iface _ d => uptoBulk d + 1
  | .map entries => uptoBulkEntries entries + 1
  | .held _ => 1
def uptoBulkAll {H : Type} : List (DataW H) → Nat
  | [] => 0
  | d :: r => uptoBulk d + uptoBulkAll r
def uptoBulkEntries {H : Type} : List (Lit × DataW H) → Nat
  | [] => 0
  | x :: r => uptoBulkEntry x + uptoBulkEntries r
def uptoBulkEntry {H : Type} : Lit × DataW H → Nat
  | (.string bytes, d) => bytes.length + uptoBulk d + 1
  | (_, d) => uptoBulk d + 1
 end
def uptoSmall : (H : Type) → List (DataW H) → Bool := fun _ ds => decide (uptoBulkAll ds ≤ 1048576)
def OpenSpec.upto (s : _root_.Go.ChangeSpec) : _root_.Go.OpenSpec := { _root_.Go.OpenSpec.ofChange s with cond := some uptoSmall }

/-- 'rootstocklaw22.CursorTells', WHERE WHAT IT READS IS OF BULK AT MOST 1048576: true; the input reads as it did. -/
def cursorTellsUptoRow : OpenClaim := { program := "ytcjpmgfobnaoeaa", sum := "fa3352baa0c7c5f0d9c84ce04df548ab6f4794d646f4ef69eb2b4b3af9830ee9", func := "rootstock/rootstocklaw22.CursorTells", spec := "cursorTells", unfollowed := true, recurses := true, loops := true, apart := false, narrowed := true }
def CursorTellsUptoSaid : Prop := cursorTellsUptoRow.holds Try.pinned (OpenSpec.upto cursorTellsSpec)

/-- 'rootstocklaw22.CursorAll', WHERE WHAT IT READS IS OF BULK AT MOST 1048576: true; the input reads as it did. -/
def cursorAllUptoRow : OpenClaim := { program := "ytcjpmgfobnaoeaa", sum := "fa3352baa0c7c5f0d9c84ce04df548ab6f4794d646f4ef69eb2b4b3af9830ee9", func := "rootstock/rootstocklaw22.CursorAll", spec := "cursorAll", unfollowed := true, recurses := true, loops := true, apart := false, narrowed := true }
def CursorAllUptoSaid : Prop := cursorAllUptoRow.holds Try.pinned (OpenSpec.upto cursorAllSpec)

/-- 'rootstocklaw20.NodesStay', WHERE WHAT IT READS IS OF BULK AT MOST 1048576: true; the input reads as it did. -/
def nodesStayUptoRow : OpenClaim := { program := "ytcjpmgfobnaoeaa", sum := "fa3352baa0c7c5f0d9c84ce04df548ab6f4794d646f4ef69eb2b4b3af9830ee9", func := "rootstock/rootstocklaw20.NodesStay", spec := "nodesStay", unfollowed := true, recurses := true, loops := true, apart := false, narrowed := true }
def NodesStayUptoSaid : Prop := nodesStayUptoRow.holds Try.pinned (OpenSpec.upto nodesStaySpec)

/-- 'rootstocklaw25.FindPath', WHERE WHAT IT READS IS OF BULK AT MOST 1048576: true; the input reads as it did. -/
def findPathUptoRow : OpenClaim := { program := "ytcjpmgfobnaoeaa", sum := "fa3352baa0c7c5f0d9c84ce04df548ab6f4794d646f4ef69eb2b4b3af9830ee9", func := "rootstock/rootstocklaw25.FindPath", spec := "findPath", unfollowed := true, recurses := true, loops := true, apart := false, narrowed := true }
def FindPathUptoSaid : Prop := findPathUptoRow.holds Try.pinned (OpenSpec.upto findPathSpec)

/-- 'rootstocklaw20.NodesAdd', WHERE WHAT IT READS IS OF BULK AT MOST 1048576: true; the input reads as it did. -/
def nodesAddUptoRow : OpenClaim := { program := "ytcjpmgfobnaoeaa", sum := "fa3352baa0c7c5f0d9c84ce04df548ab6f4794d646f4ef69eb2b4b3af9830ee9", func := "rootstock/rootstocklaw20.NodesAdd", spec := "nodesAdd", unfollowed := true, recurses := true, loops := true, apart := false, narrowed := true }
def NodesAddUptoSaid : Prop := nodesAddUptoRow.holds Try.pinned (OpenSpec.upto nodesAddSpec)

/-- 'rootstocklaw20.NodesWithin', WHERE WHAT IT READS IS OF BULK AT MOST 1048576: true; the input reads as it did. -/
def nodesWithinUptoRow : OpenClaim := { program := "ytcjpmgfobnaoeaa", sum := "fa3352baa0c7c5f0d9c84ce04df548ab6f4794d646f4ef69eb2b4b3af9830ee9", func := "rootstock/rootstocklaw20.NodesWithin", spec := "nodesWithin", unfollowed := true, recurses := true, loops := true, apart := false, narrowed := true }
def NodesWithinUptoSaid : Prop := nodesWithinUptoRow.holds Try.pinned (OpenSpec.upto nodesWithinSpec)

/-- 'rootstocklaw20.NodesRefuse', WHERE WHAT IT READS IS OF BULK AT MOST 1048576: true; the input reads as it did. -/
def nodesRefuseUptoRow : OpenClaim := { program := "ytcjpmgfobnaoeaa", sum := "fa3352baa0c7c5f0d9c84ce04df548ab6f4794d646f4ef69eb2b4b3af9830ee9", func := "rootstock/rootstocklaw20.NodesRefuse", spec := "nodesRefuse", unfollowed := true, recurses := true, apart := false, narrowed := true }
def NodesRefuseUptoSaid : Prop := nodesRefuseUptoRow.holds Try.pinned (OpenSpec.upto nodesRefuseSpec)

/-- 'rootstocklaw20.NodesTell', WHERE WHAT IT READS IS OF BULK AT MOST 1048576: true; the input reads as it did. -/
def nodesTellUptoRow : OpenClaim := { program := "ytcjpmgfobnaoeaa", sum := "fa3352baa0c7c5f0d9c84ce04df548ab6f4794d646f4ef69eb2b4b3af9830ee9", func := "rootstock/rootstocklaw20.NodesTell", spec := "nodesTell", unfollowed := true, recurses := true, loops := true, apart := false, narrowed := true }
def NodesTellUptoSaid : Prop := nodesTellUptoRow.holds Try.pinned (OpenSpec.upto nodesTellSpec)

/-- 'rootstocklaw20.NodesSame', WHERE WHAT IT READS IS OF BULK AT MOST 1048576: true; the input reads as it did. -/
def nodesSameUptoRow : OpenClaim := { program := "ytcjpmgfobnaoeaa", sum := "fa3352baa0c7c5f0d9c84ce04df548ab6f4794d646f4ef69eb2b4b3af9830ee9", func := "rootstock/rootstocklaw20.NodesSame", spec := "nodesSame", unfollowed := true, recurses := true, loops := true, apart := false, narrowed := true }
def NodesSameUptoSaid : Prop := nodesSameUptoRow.holds Try.pinned (OpenSpec.upto nodesSameSpec)

/-- 'rootstocklaw25.FindTells', WHERE WHAT IT READS IS OF BULK AT MOST 1048576: true; the input reads as it did. -/
def findTellsUptoRow : OpenClaim := { program := "ytcjpmgfobnaoeaa", sum := "fa3352baa0c7c5f0d9c84ce04df548ab6f4794d646f4ef69eb2b4b3af9830ee9", func := "rootstock/rootstocklaw25.FindTells", spec := "findTells", unfollowed := true, recurses := true, loops := true, apart := false, narrowed := true }
def FindTellsUptoSaid : Prop := findTellsUptoRow.holds Try.pinned (OpenSpec.upto findTellsSpec)

/-- 'rootstocklaw25.FindDeepest', WHERE WHAT IT READS IS OF BULK AT MOST 1048576: true; the input reads as it did. -/
def findDeepestUptoRow : OpenClaim := { program := "ytcjpmgfobnaoeaa", sum := "fa3352baa0c7c5f0d9c84ce04df548ab6f4794d646f4ef69eb2b4b3af9830ee9", func := "rootstock/rootstocklaw25.FindDeepest", spec := "findDeepest", unfollowed := true, recurses := true, loops := true, apart := false, narrowed := true }
def FindDeepestUptoSaid : Prop := findDeepestUptoRow.holds Try.pinned (OpenSpec.upto findDeepestSpec)

/-- 'rootstocklaw25.FindSame', WHERE WHAT IT READS IS OF BULK AT MOST 1048576: true; the input reads as it did. -/
def findSameUptoRow : OpenClaim := { program := "ytcjpmgfobnaoeaa", sum := "fa3352baa0c7c5f0d9c84ce04df548ab6f4794d646f4ef69eb2b4b3af9830ee9", func := "rootstock/rootstocklaw25.FindSame", spec := "findSame", unfollowed := true, recurses := true, loops := true, apart := false, narrowed := true }
def FindSameUptoSaid : Prop := findSameUptoRow.holds Try.pinned (OpenSpec.upto findSameSpec)

/-- 'rootstocklaw22.CursorChain', WHERE WHAT IT READS IS OF BULK AT MOST 1048576: true; the input reads as it did. -/
def cursorChainUptoRow : OpenClaim := { program := "ytcjpmgfobnaoeaa", sum := "fa3352baa0c7c5f0d9c84ce04df548ab6f4794d646f4ef69eb2b4b3af9830ee9", func := "rootstock/rootstocklaw22.CursorChain", spec := "cursorChain", unfollowed := true, recurses := true, loops := true, apart := false, narrowed := true }
def CursorChainUptoSaid : Prop := cursorChainUptoRow.holds Try.pinned (OpenSpec.upto cursorChainSpec)

/-- 'rootstocklaw22.CursorCovers', WHERE WHAT IT READS IS OF BULK AT MOST 1048576: true; the input reads as it did. -/
def cursorCoversUptoRow : OpenClaim := { program := "ytcjpmgfobnaoeaa", sum := "fa3352baa0c7c5f0d9c84ce04df548ab6f4794d646f4ef69eb2b4b3af9830ee9", func := "rootstock/rootstocklaw22.CursorCovers", spec := "cursorCovers", unfollowed := true, recurses := true, loops := true, apart := false, narrowed := true }
def CursorCoversUptoSaid : Prop := cursorCoversUptoRow.holds Try.pinned (OpenSpec.upto cursorCoversSpec)

/-- 'rootstocklaw25.FindLeaves', WHERE WHAT IT READS IS OF BULK AT MOST 1048576: true; the input reads as it did. -/
def findLeavesUptoRow : OpenClaim := { program := "ytcjpmgfobnaoeaa", sum := "fa3352baa0c7c5f0d9c84ce04df548ab6f4794d646f4ef69eb2b4b3af9830ee9", func := "rootstock/rootstocklaw25.FindLeaves", spec := "findLeaves", unfollowed := true, recurses := true, loops := true, apart := false, narrowed := true }
def FindLeavesUptoSaid : Prop := findLeavesUptoRow.holds Try.pinned (OpenSpec.upto findLeavesSpec)

/-- 'rootstocklaw20.NodesNone', WHERE WHAT IT READS IS OF BULK AT MOST 1048576: true; the input reads as it did. -/
def nodesNoneUptoRow : OpenClaim := { program := "ytcjpmgfobnaoeaa", sum := "fa3352baa0c7c5f0d9c84ce04df548ab6f4794d646f4ef69eb2b4b3af9830ee9", func := "rootstock/rootstocklaw20.NodesNone", spec := "nodesNone", unfollowed := true, recurses := true, loops := true, apart := false, narrowed := true }
def NodesNoneUptoSaid : Prop := nodesNoneUptoRow.holds Try.pinned (OpenSpec.upto nodesNoneSpec)

end Rows
end Go.Proofs.Ytcjpmgfobnaoeaa
