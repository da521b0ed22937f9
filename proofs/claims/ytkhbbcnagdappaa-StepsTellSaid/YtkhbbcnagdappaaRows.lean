/-
  No cell of these rows narrows 'for every input' (looked for: loops, veiled, ifaces, maps, wideKeys, modest, calm, conditions, laid).
  DERIVED. THE GIVEN ROWS OF THIS SEAT. 5 by the template 'for every input the law returns true; each argument reads behind the call as it read before'; 0 by the template 'total and deterministic' (their statements: YtkhbbcnagdappaaTotals.lean).
  GIVEN WITH THE SEED: the statements are not yours to turn. If you find one false, say at which input.
  Laid BY PROGRAM, IN A SANDBOX (cutbox-rows.mjs): the forced cells as the released guide's own fill.sh prints them over the translation 5e7f6afe101022c6… (all of the seat's roots in one cut). By AI agents, Wed Nov 11 2026. No macro, syntax, notation, axiom, sorry.
-/
import Derived.Test.YtkhbbcnagdappaaChecked
import GoSem.Claim
import GoSem.ClaimJoined
import GoSem.ClaimMapViews
import Derived.JoinedTies
import Derived.KernelRfl
namespace Go.Proofs.Ytkhbbcnagdappaa
/- THE CELL 'sum', in the pinned program and in every row, IS THE sha256 OF THE DUMP (.gsa) THAT YtkhbbcnagdappaaProg.lean LOADS. Nothing in Lean hashes anything: it is a label: what it is worth is what the hold of that sum in a sandbox is worth. -/
noncomputable def Try.pinned : Pinned := { name := "ytkhbbcnagdappaa", sum := "5e7f6afe101022c69365349e98cca502923587f0be855fce29a0316fb4e539fc", checked := Try.checked }
namespace Rows
def none {H : Type} : Left H := { results := [], args := [] }

/-- 'forebaylaw04.StepsLeast': WHATEVER THE INPUT: true; the input reads as it did. -/
def stepsLeastSpec : ChangeSpec := { name := "stepsLeast", fn := fun _ => fun
  | [d] => { results := [.lit (.bool true)], args := [d] }
  | _ => none }
def stepsLeastRow : OpenClaim := { program := "ytkhbbcnagdappaa", sum := "5e7f6afe101022c69365349e98cca502923587f0be855fce29a0316fb4e539fc", func := "forebay/forebaylaw04.StepsLeast", spec := "stepsLeast", unfollowed := true, recurses := true, apart := false }
def StepsLeastSaid : Prop := stepsLeastRow.holds Try.pinned (OpenSpec.ofChange stepsLeastSpec)

/-- ITS FALSE NEIGHBOUR: 'it returns false'. Refute it at one input. -/
def stepsLeastWrong : ChangeSpec := { name := "stepsLeast", fn := fun _ => fun
  | [d] => { results := [.lit (.bool false)], args := [d] }
  | _ => none }
def StepsLeastWrongFalsely : Prop := stepsLeastRow.holds Try.pinned (OpenSpec.ofChange stepsLeastWrong)

/-- 'forebaylaw04.StepsOwn': WHATEVER THE INPUT: true; the input reads as it did. -/
def stepsOwnSpec : ChangeSpec := { name := "stepsOwn", fn := fun _ => fun
  | [d1, d2] => { results := [.lit (.bool true)], args := [d1, d2] }
  | _ => none }
def stepsOwnRow : OpenClaim := { program := "ytkhbbcnagdappaa", sum := "5e7f6afe101022c69365349e98cca502923587f0be855fce29a0316fb4e539fc", func := "forebay/forebaylaw04.StepsOwn", spec := "stepsOwn", unfollowed := true, recurses := true, apart := false }
def StepsOwnSaid : Prop := stepsOwnRow.holds Try.pinned (OpenSpec.ofChange stepsOwnSpec)

/-- ITS FALSE NEIGHBOUR: 'it returns false'. Refute it at one input. -/
def stepsOwnWrong : ChangeSpec := { name := "stepsOwn", fn := fun _ => fun
  | [d1, d2] => { results := [.lit (.bool false)], args := [d1, d2] }
  | _ => none }
def StepsOwnWrongFalsely : Prop := stepsOwnRow.holds Try.pinned (OpenSpec.ofChange stepsOwnWrong)

/-- 'forebaylaw04.StepsTell': WHATEVER THE INPUT: true; the input reads as it did. -/
def stepsTellSpec : ChangeSpec := { name := "stepsTell", fn := fun _ => fun
  | [d1, d2, d3] => { results := [.lit (.bool true)], args := [d1, d2, d3] }
  | _ => none }
def stepsTellRow : OpenClaim := { program := "ytkhbbcnagdappaa", sum := "5e7f6afe101022c69365349e98cca502923587f0be855fce29a0316fb4e539fc", func := "forebay/forebaylaw04.StepsTell", spec := "stepsTell", unfollowed := true, recurses := true, apart := false }
def StepsTellSaid : Prop := stepsTellRow.holds Try.pinned (OpenSpec.ofChange stepsTellSpec)

/-- ITS FALSE NEIGHBOUR: 'it returns false'. Refute it at one input. -/
def stepsTellWrong : ChangeSpec := { name := "stepsTell", fn := fun _ => fun
  | [d1, d2, d3] => { results := [.lit (.bool false)], args := [d1, d2, d3] }
  | _ => none }
def StepsTellWrongFalsely : Prop := stepsTellRow.holds Try.pinned (OpenSpec.ofChange stepsTellWrong)

/-- 'forebaylaw04.StepsBack': WHATEVER THE INPUT: true; the input reads as it did. -/
def stepsBackSpec : ChangeSpec := { name := "stepsBack", fn := fun _ => fun
  | [d] => { results := [.lit (.bool true)], args := [d] }
  | _ => none }
def stepsBackRow : OpenClaim := { program := "ytkhbbcnagdappaa", sum := "5e7f6afe101022c69365349e98cca502923587f0be855fce29a0316fb4e539fc", func := "forebay/forebaylaw04.StepsBack", spec := "stepsBack", unfollowed := true, recurses := true, apart := false }
def StepsBackSaid : Prop := stepsBackRow.holds Try.pinned (OpenSpec.ofChange stepsBackSpec)

/-- ITS FALSE NEIGHBOUR: 'it returns false'. Refute it at one input. -/
def stepsBackWrong : ChangeSpec := { name := "stepsBack", fn := fun _ => fun
  | [d] => { results := [.lit (.bool false)], args := [d] }
  | _ => none }
def StepsBackWrongFalsely : Prop := stepsBackRow.holds Try.pinned (OpenSpec.ofChange stepsBackWrong)

/-- 'forebaylaw04.StepsSame': WHATEVER THE INPUT: true; the input reads as it did. -/
def stepsSameSpec : ChangeSpec := { name := "stepsSame", fn := fun _ => fun
  | [d1, d2] => { results := [.lit (.bool true)], args := [d1, d2] }
  | _ => none }
def stepsSameRow : OpenClaim := { program := "ytkhbbcnagdappaa", sum := "5e7f6afe101022c69365349e98cca502923587f0be855fce29a0316fb4e539fc", func := "forebay/forebaylaw04.StepsSame", spec := "stepsSame", unfollowed := true, recurses := true, apart := false }
def StepsSameSaid : Prop := stepsSameRow.holds Try.pinned (OpenSpec.ofChange stepsSameSpec)

/-- ITS FALSE NEIGHBOUR: 'it returns false'. Refute it at one input. -/
def stepsSameWrong : ChangeSpec := { name := "stepsSame", fn := fun _ => fun
  | [d1, d2] => { results := [.lit (.bool false)], args := [d1, d2] }
  | _ => none }
def StepsSameWrongFalsely : Prop := stepsSameRow.holds Try.pinned (OpenSpec.ofChange stepsSameWrong)

/- THE SECOND FORM. 'bulk': how many values and letters a reading holds, each counted each time it is reached (what is shared counts as often as it is met; a slice's spare places count too). A statement '..UptoSaid' is the law's where the arguments, and the package variables that the reading takes, are together of bulk at most 1048576: NARROWER than '..Said'. Prove '..Said' where nothing that the law and all that it calls make is longer than what came in: it says more and counts as full. Else prove '..UptoSaid'. A law counts once. -/
mutual
def uptoBulk {H : Type} : DataW H → Nat
  | .lit (.string bytes) => bytes.length + 1
  | .lit _ => 1
  | .nil => 1
  | .ptr d => uptoBulk d + 1
  | .slice elems spare => uptoBulkAll elems + uptoBulkAll spare + 1
  | .agg parts => uptoBulkAll parts + 1
  | .iface _ d => uptoBulk d + 1
  | .map entries => uptoBulkEntries entries + 1
  | .held _ => 1
def uptoBulkAll {H : Type} : List (DataW H) → Nat
  | [] => 0
  | d :: r => uptoBulk d + uptoBulkAll r
def uptoBulkEntries {H : Type} : List (Lit × DataW H) → Nat
  | [] => 0
  | x :: r => uptoBulkEntry x + uptoBulkEntries r
def uptoBulkEntry {H : Type} : Lit × DataW H → Nat
  | (.string bytes, d) => bytes.length + uptoBulk d + 1
  | (_, d) => uptoBulk d + 1
 end
def uptoSmall : (H : Type) → List (DataW H) → Bool := fun _ ds => decide (uptoBulkAll ds ≤ 1048576)
def OpenSpec.upto (s : _root_.Go.ChangeSpec) : _root_.Go.OpenSpec := { _root_.Go.OpenSpec.ofChange s with cond := some uptoSmall }

/-- 'forebaylaw04.StepsLeast', WHERE WHAT IT READS IS OF BULK AT MOST 1048576: true; the input reads as it did. -/
def stepsLeastUptoRow : OpenClaim := { program := "ytkhbbcnagdappaa", sum := "5e7f6afe101022c69365349e98cca502923587f0be855fce29a0316fb4e539fc", func := "forebay/forebaylaw04.StepsLeast", spec := "stepsLeast", unfollowed := true, recurses := true, apart := false, narrowed := true }
def StepsLeastUptoSaid : Prop := stepsLeastUptoRow.holds Try.pinned (OpenSpec.upto stepsLeastSpec)

/-- 'forebaylaw04.StepsOwn', WHERE WHAT IT READS IS OF BULK AT MOST 1048576: true; the input reads as it did. -/
def stepsOwnUptoRow : OpenClaim := { program := "ytkhbbcnagdappaa", sum := "5e7f6afe101022c69365349e98cca502923587f0be855fce29a0316fb4e539fc", func := "forebay/forebaylaw04.StepsOwn", spec := "stepsOwn", unfollowed := true, recurses := true, apart := false, narrowed := true }
def StepsOwnUptoSaid : Prop := stepsOwnUptoRow.holds Try.pinned (OpenSpec.upto stepsOwnSpec)

/-- 'forebaylaw04.StepsTell', WHERE WHAT IT READS IS OF BULK AT MOST 1048576: true; the input reads as it did. -/
def stepsTellUptoRow : OpenClaim := { program := "ytkhbbcnagdappaa", sum := "5e7f6afe101022c69365349e98cca502923587f0be855fce29a0316fb4e539fc", func := "forebay/forebaylaw04.StepsTell", spec := "stepsTell", unfollowed := true, recurses := true, apart := false, narrowed := true }
def StepsTellUptoSaid : Prop := stepsTellUptoRow.holds Try.pinned (OpenSpec.upto stepsTellSpec)

/-- 'forebaylaw04.StepsBack', WHERE WHAT IT READS IS OF BULK AT MOST 1048576: true; the input reads as it did. -/
def stepsBackUptoRow : OpenClaim := { program := "ytkhbbcnagdappaa", sum := "5e7f6afe101022c69365349e98cca502923587f0be855fce29a0316fb4e539fc", func := "forebay/forebaylaw04.StepsBack", spec := "stepsBack", unfollowed := true, recurses := true, apart := false, narrowed := true }
def StepsBackUptoSaid : Prop := stepsBackUptoRow.holds Try.pinned (OpenSpec.upto stepsBackSpec)

/-- 'forebaylaw04.StepsSame', WHERE WHAT IT READS IS OF BULK AT MOST 1048576: true; the input reads as it did. -/
def stepsSameUptoRow : OpenClaim := { program := "ytkhbbcnagdappaa", sum := "5e7f6afe101022c69365349e98cca502923587f0be855fce29a0316fb4e539fc", func := "forebay/forebaylaw04.StepsSame", spec := "stepsSame", unfollowed := true, recurses := true, apart := false, narrowed := true }
def StepsSameUptoSaid : Prop := stepsSameUptoRow.holds Try.pinned (OpenSpec.upto stepsSameSpec)

end Rows
end Go.Proofs.Ytkhbbcnagdappaa
