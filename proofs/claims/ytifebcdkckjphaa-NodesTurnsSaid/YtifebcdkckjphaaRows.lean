/-
  No cell of these rows narrows 'for every input' (looked for: loops, veiled, ifaces, maps, wideKeys, modest, calm, conditions, laid).
  DERIVED. THE GIVEN ROWS OF THIS SEAT. 4 by the template 'for every input the law returns true; each argument reads behind the call as it read before'; 0 by the template 'total and deterministic' (their statements: YtifebcdkckjphaaTotals.lean).
  GIVEN WITH THE SEED: the statements are not yours to turn. If you find one false, say at which input.
  Laid BY PROGRAM, IN A SANDBOX (cutbox-rows.mjs): the forced cells as the released guide's own fill.sh prints them over the translation 08e17778dc525ebf… (all of the seat's roots in one cut). By AI agents, Wed Nov 11 2026. No macro, syntax, notation, axiom, sorry.
-/
import Derived.Test.YtifebcdkckjphaaChecked
import GoSem.Claim
import GoSem.ClaimJoined
import GoSem.ClaimMapViews
import Derived.JoinedTies
import Derived.KernelRfl
namespace Go.Proofs.Ytifebcdkckjphaa
/- THE CELL 'sum', in the pinned program and in every row, IS THE sha256 OF THE DUMP (.gsa) THAT YtifebcdkckjphaaProg.lean LOADS. Nothing in Lean hashes anything: it is a label: what it is worth is what the hold of that sum in a sandbox is worth. -/
noncomputable def Try.pinned : Pinned := { name := "ytifebcdkckjphaa", sum := "08e17778dc525ebf88f3a6ef3f6662c203f7a2400b2d738c18887c8cf0fcc573", checked := Try.checked }
namespace Rows
def none {H : Type} : Left H := { results := [], args := [] }

/-- 'forebaylaw20.NodesApart': WHATEVER THE INPUT: true; the input reads as it did. -/
def nodesApartSpec : ChangeSpec := { name := "nodesApart", fn := fun _ => fun
  | [d] => { results := [.lit (.bool true)], args := [d] }
  | _ => none }
def nodesApartRow : OpenClaim := { program := "ytifebcdkckjphaa", sum := "08e17778dc525ebf88f3a6ef3f6662c203f7a2400b2d738c18887c8cf0fcc573", func := "forebay/forebaylaw20.NodesApart", spec := "nodesApart", unfollowed := true, recurses := true, apart := false }
def NodesApartSaid : Prop := nodesApartRow.holds Try.pinned (OpenSpec.ofChange nodesApartSpec)

/-- ITS FALSE NEIGHBOUR: 'it returns false'. Refute it at one input. -/
def nodesApartWrong : ChangeSpec := { name := "nodesApart", fn := fun _ => fun
  | [d] => { results := [.lit (.bool false)], args := [d] }
  | _ => none }
def NodesApartWrongFalsely : Prop := nodesApartRow.holds Try.pinned (OpenSpec.ofChange nodesApartWrong)

/-- 'forebaylaw20.NodesNews': WHATEVER THE INPUT: true; the input reads as it did. -/
def nodesNewsSpec : ChangeSpec := { name := "nodesNews", fn := fun _ => fun
  | [d] => { results := [.lit (.bool true)], args := [d] }
  | _ => none }
def nodesNewsRow : OpenClaim := { program := "ytifebcdkckjphaa", sum := "08e17778dc525ebf88f3a6ef3f6662c203f7a2400b2d738c18887c8cf0fcc573", func := "forebay/forebaylaw20.NodesNews", spec := "nodesNews", unfollowed := true, recurses := true, apart := false }
def NodesNewsSaid : Prop := nodesNewsRow.holds Try.pinned (OpenSpec.ofChange nodesNewsSpec)

/-- ITS FALSE NEIGHBOUR: 'it returns false'. Refute it at one input. -/
def nodesNewsWrong : ChangeSpec := { name := "nodesNews", fn := fun _ => fun
  | [d] => { results := [.lit (.bool false)], args := [d] }
  | _ => none }
def NodesNewsWrongFalsely : Prop := nodesNewsRow.holds Try.pinned (OpenSpec.ofChange nodesNewsWrong)

/-- 'forebaylaw20.NodesTell': WHATEVER THE INPUT: true; the input reads as it did. -/
def nodesTellSpec : ChangeSpec := { name := "nodesTell", fn := fun _ => fun
  | [d1, d2, d3] => { results := [.lit (.bool true)], args := [d1, d2, d3] }
  | _ => none }
def nodesTellRow : OpenClaim := { program := "ytifebcdkckjphaa", sum := "08e17778dc525ebf88f3a6ef3f6662c203f7a2400b2d738c18887c8cf0fcc573", func := "forebay/forebaylaw20.NodesTell", spec := "nodesTell", unfollowed := true, recurses := true, apart := false }
def NodesTellSaid : Prop := nodesTellRow.holds Try.pinned (OpenSpec.ofChange nodesTellSpec)

/-- ITS FALSE NEIGHBOUR: 'it returns false'. Refute it at one input. -/
def nodesTellWrong : ChangeSpec := { name := "nodesTell", fn := fun _ => fun
  | [d1, d2, d3] => { results := [.lit (.bool false)], args := [d1, d2, d3] }
  | _ => none }
def NodesTellWrongFalsely : Prop := nodesTellRow.holds Try.pinned (OpenSpec.ofChange nodesTellWrong)

/-- 'forebaylaw20.NodesTurns': WHATEVER THE INPUT: true; the input reads as it did. -/
def nodesTurnsSpec : ChangeSpec := { name := "nodesTurns", fn := fun _ => fun
  | [d1, d2] => { results := [.lit (.bool true)], args := [d1, d2] }
  | _ => none }
def nodesTurnsRow : OpenClaim := { program := "ytifebcdkckjphaa", sum := "08e17778dc525ebf88f3a6ef3f6662c203f7a2400b2d738c18887c8cf0fcc573", func := "forebay/forebaylaw20.NodesTurns", spec := "nodesTurns", unfollowed := true, recurses := true, apart := false }
def NodesTurnsSaid : Prop := nodesTurnsRow.holds Try.pinned (OpenSpec.ofChange nodesTurnsSpec)

/-- ITS FALSE NEIGHBOUR: 'it returns false'. Refute it at one input. -/
def nodesTurnsWrong : ChangeSpec := { name := "nodesTurns", fn := fun _ => fun
  | [d1, d2] => { results := [.lit (.bool false)], args := [d1, d2] }
  | _ => none }
def NodesTurnsWrongFalsely : Prop := nodesTurnsRow.holds Try.pinned (OpenSpec.ofChange nodesTurnsWrong)

/- THE SECOND FORM. 'bulk': how many values and letters a reading holds, each counted each time it is reached (what is shared counts as often as it is met; a slice's spare places count too). A statement '..UptoSaid' is the law's where the arguments, and the package variables that the reading takes, are together of bulk at most 1048576: NARROWER than '..Said'. Prove '..Said' where nothing that the law and all that it calls make is longer than what came in: it says more and counts as full. Else prove '..UptoSaid'. A law counts once. -/
mutual
def uptoBulk {H : Type} : DataW H → Nat
  | .lit (.string bytes) => bytes.length + 1
  | .lit _ => 1
  | .nil => 1
  | .ptr d => uptoBulk d + 1
  | .slice elems spare => uptoBulkAll elems + uptoBulkAll spare + 1
  | .agg parts => uptoBulkAll parts + 1
  | .iface _ d => uptoBulk d + 1
  | .map entries => uptoBulkEntries entries + 1
  | .held _ => 1
def uptoBulkAll {H : Type} : List (DataW H) → Nat
  | [] => 0
  | d :: r => uptoBulk d + uptoBulkAll r
def uptoBulkEntries {H : Type} : List (Lit × DataW H) → Nat
  | [] => 0
  | x :: r => uptoBulkEntry x + uptoBulkEntries r
def uptoBulkEntry {H : Type} : Lit × DataW H → Nat
  | (.string bytes, d) => bytes.length + uptoBulk d + 1
  | (_, d) => uptoBulk d + 1
 end
def uptoSmall : (H : Type) → List (DataW H) → Bool := fun _ ds => decide (uptoBulkAll ds ≤ 1048576)
def OpenSpec.upto (s : _root_.Go.ChangeSpec) : _root_.Go.OpenSpec := { _root_.Go.OpenSpec.ofChange s with cond := some uptoSmall }

/-- 'forebaylaw20.NodesApart', WHERE WHAT IT READS IS OF BULK AT MOST 1048576: true; the input reads as it did. -/
def nodesApartUptoRow : OpenClaim := { program := "ytifebcdkckjphaa", sum := "08e17778dc525ebf88f3a6ef3f6662c203f7a2400b2d738c18887c8cf0fcc573", func := "forebay/forebaylaw20.NodesApart", spec := "nodesApart", unfollowed := true, recurses := true, apart := false, narrowed := true }
def NodesApartUptoSaid : Prop := nodesApartUptoRow.holds Try.pinned (OpenSpec.upto nodesApartSpec)

/-- 'forebaylaw20.NodesNews', WHERE WHAT IT READS IS OF BULK AT MOST 1048576: true; the input reads as it did. -/
def nodesNewsUptoRow : OpenClaim := { program := "ytifebcdkckjphaa", sum := "08e17778dc525ebf88f3a6ef3f6662c203f7a2400b2d738c18887c8cf0fcc573", func := "forebay/forebaylaw20.NodesNews", spec := "nodesNews", unfollowed := true, recurses := true, apart := false, narrowed := true }
def NodesNewsUptoSaid : Prop := nodesNewsUptoRow.holds Try.pinned (OpenSpec.upto nodesNewsSpec)

/-- 'forebaylaw20.NodesTell', WHERE WHAT IT READS IS OF BULK AT MOST 1048576: true; the input reads as it did. -/
def nodesTellUptoRow : OpenClaim := { program := "ytifebcdkckjphaa", sum := "08e17778dc525ebf88f3a6ef3f6662c203f7a2400b2d738c18887c8cf0fcc573", func := "forebay/forebaylaw20.NodesTell", spec := "nodesTell", unfollowed := true, recurses := true, apart := false, narrowed := true }
def NodesTellUptoSaid : Prop := nodesTellUptoRow.holds Try.pinned (OpenSpec.upto nodesTellSpec)

/-- 'forebaylaw20.NodesTurns', WHERE WHAT IT READS IS OF BULK AT MOST 1048576: true; the input reads as it did. -/
def nodesTurnsUptoRow : OpenClaim := { program := "ytifebcdkckjphaa", sum := "08e17778dc525ebf88f3a6ef3f6662c203f7a2400b2d738c18887c8cf0fcc573", func := "forebay/forebaylaw20.NodesTurns", spec := "nodesTurns", unfollowed := true, recurses := true, apart := false, narrowed := true }
def NodesTurnsUptoSaid : Prop := nodesTurnsUptoRow.holds Try.pinned (OpenSpec.upto nodesTurnsSpec)

end Rows
end Go.Proofs.Ytifebcdkckjphaa
