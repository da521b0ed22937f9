/-
  No cell of these rows narrows 'for every input' (looked for: loops, veiled, ifaces, maps, wideKeys, modest, calm, conditions, laid).
  DERIVED. THE GIVEN ROWS OF THIS SEAT. 3 by the template 'for every input the law returns true; each argument reads behind the call as it read before'; 0 by the template 'total and deterministic' (their statements: YtnpppcfbnomjiaaTotals.lean).
  GIVEN WITH THE SEED: the statements are not yours to turn. If you find one false, say at which input.
  Laid BY PROGRAM, IN A SANDBOX (cutbox-rows.mjs): the forced cells as the released guide's own fill.sh prints them over the translation 8c63c6af2711fac0… (all of the seat's roots in one cut). By AI agents, Wed Nov 11 2026. No macro, syntax, notation, axiom, sorry.
-/
import Derived.Test.YtnpppcfbnomjiaaChecked
import GoSem.Claim
import GoSem.ClaimJoined
import GoSem.ClaimMapViews
import Derived.JoinedTies
import Derived.KernelRfl
namespace Go.Proofs.Ytnpppcfbnomjiaa
/- THE CELL 'sum', in the pinned program and in every row, IS THE sha256 OF THE DUMP (.gsa) THAT YtnpppcfbnomjiaaProg.lean LOADS. Nothing in Lean hashes anything: it is a label: what it is worth is what the hold of that sum in a sandbox is worth. -/
noncomputable def Try.pinned : Pinned := { name := "ytnpppcfbnomjiaa", sum := "8c63c6af2711fac019e06b2ed52cc83fe95fe34afe6be31a575c4228dfc4d5a8", checked := Try.checked }
namespace Rows
def none {H : Type} : Left H := { results := [], args := [] }

/-- 'forebaylaw02.SealTells': WHATEVER THE INPUT: true; the input reads as it did. -/
def sealTellsSpec : ChangeSpec := { name := "sealTells", fn := fun _ => fun
  | [d1, d2] => { results := [.lit (.bool true)], args := [d1, d2] }
  | _ => none }
def sealTellsRow : OpenClaim := { program := "ytnpppcfbnomjiaa", sum := "8c63c6af2711fac019e06b2ed52cc83fe95fe34afe6be31a575c4228dfc4d5a8", func := "forebay/forebaylaw02.SealTells", spec := "sealTells", unfollowed := true, recurses := true, apart := false }
def SealTellsSaid : Prop := sealTellsRow.holds Try.pinned (OpenSpec.ofChange sealTellsSpec)

/-- ITS FALSE NEIGHBOUR: 'it returns false'. Refute it at one input. -/
def sealTellsWrong : ChangeSpec := { name := "sealTells", fn := fun _ => fun
  | [d1, d2] => { results := [.lit (.bool false)], args := [d1, d2] }
  | _ => none }
def SealTellsWrongFalsely : Prop := sealTellsRow.holds Try.pinned (OpenSpec.ofChange sealTellsWrong)

/-- 'forebaylaw02.SealBurst': WHATEVER THE INPUT: true; the input reads as it did. -/
def sealBurstSpec : ChangeSpec := { name := "sealBurst", fn := fun _ => fun
  | [d1, d2, d3] => { results := [.lit (.bool true)], args := [d1, d2, d3] }
  | _ => none }
def sealBurstRow : OpenClaim := { program := "ytnpppcfbnomjiaa", sum := "8c63c6af2711fac019e06b2ed52cc83fe95fe34afe6be31a575c4228dfc4d5a8", func := "forebay/forebaylaw02.SealBurst", spec := "sealBurst", unfollowed := true, recurses := true, apart := false }
def SealBurstSaid : Prop := sealBurstRow.holds Try.pinned (OpenSpec.ofChange sealBurstSpec)

/-- ITS FALSE NEIGHBOUR: 'it returns false'. Refute it at one input. -/
def sealBurstWrong : ChangeSpec := { name := "sealBurst", fn := fun _ => fun
  | [d1, d2, d3] => { results := [.lit (.bool false)], args := [d1, d2, d3] }
  | _ => none }
def SealBurstWrongFalsely : Prop := sealBurstRow.holds Try.pinned (OpenSpec.ofChange sealBurstWrong)

/-- 'forebaylaw02.SealLinear': WHATEVER THE INPUT: true; the input reads as it did. -/
def sealLinearSpec : ChangeSpec := { name := "sealLinear", fn := fun _ => fun
  | [d1, d2] => { results := [.lit (.bool true)], args := [d1, d2] }
  | _ => none }
def sealLinearRow : OpenClaim := { program := "ytnpppcfbnomjiaa", sum := "8c63c6af2711fac019e06b2ed52cc83fe95fe34afe6be31a575c4228dfc4d5a8", func := "forebay/forebaylaw02.SealLinear", spec := "sealLinear", unfollowed := true, recurses := true, apart := false }
def SealLinearSaid : Prop := sealLinearRow.holds Try.pinned (OpenSpec.ofChange sealLinearSpec)

/-- ITS FALSE NEIGHBOUR: 'it returns false'. Refute it at one input. -/
def sealLinearWrong : ChangeSpec := { name := "sealLinear", fn := fun _ => fun
  | [d1, d2] => { results := [.lit (.bool false)], args := [d1, d2] }
  | _ => none }
def SealLinearWrongFalsely : Prop := sealLinearRow.holds Try.pinned (OpenSpec.ofChange sealLinearWrong)

/- THE SECOND FORM. 'bulk': how many values and letters a reading holds, each counted each time it is reached (what is shared counts as often as it is met; a slice's spare places count too). A statement '..UptoSaid' is the law's where the arguments, and the package variables that the reading takes, are together of bulk at most 1048576: NARROWER than '..Said'. Prove '..Said' where nothing that the law and all that it calls make is longer than what came in: it says more and counts as full. Else prove '..UptoSaid'. A law counts once. -/
mutual
def uptoBulk {H : Type} : DataW H → Nat
  | .lit (.string bytes) => bytes.length + 1
  | .lit _ => 1
  | .nil => 1
  | .ptr d => uptoBulk d + 1
  | .slice elems spare => uptoBulkAll elems + uptoBulkAll spare + 1
  | .agg parts => uptoBulkAll parts + 1
  | .iface _ d => uptoBulk d + 1
  | .map entries => uptoBulkEntries entries + 1
  | .held _ => 1
def uptoBulkAll {H : Type} : List (DataW H) → Nat
  | [] => 0
  | d :: r => uptoBulk d + uptoBulkAll r
def uptoBulkEntries {H : Type} : List (Lit × DataW H) → Nat
  | [] => 0
  | x :: r => uptoBulkEntry x + uptoBulkEntries r
def uptoBulkEntry {H : Type} : Lit × DataW H → Nat
  | (.string bytes, d) => bytes.length + uptoBulk d + 1
  | (_, d) => uptoBulk d + 1
 end
def uptoSmall : (H : Type) → List (DataW H) → Bool := fun _ ds => decide (uptoBulkAll ds ≤ 1048576)
def OpenSpec.upto (s : _root_.Go.ChangeSpec) : _root_.Go.OpenSpec := { _root_.Go.OpenSpec.ofChange s with cond := some uptoSmall }

/-- 'forebaylaw02.SealTells', WHERE WHAT IT READS IS OF BULK AT MOST 1048576: true; the input reads as it did. -/
def sealTellsUptoRow : OpenClaim := { program := "ytnpppcfbnomjiaa", sum := "8c63c6af2711fac019e06b2ed52cc83fe95fe34afe6be31a575c4228dfc4d5a8", func := "forebay/forebaylaw02.SealTells", spec := "sealTells", unfollowed := true, recurses := true, apart := false, narrowed := true }
def SealTellsUptoSaid : Prop := sealTellsUptoRow.holds Try.pinned (OpenSpec.upto sealTellsSpec)

/-- 'forebaylaw02.SealBurst', WHERE WHAT IT READS IS OF BULK AT MOST 1048576: true; the input reads as it did. -/
def sealBurstUptoRow : OpenClaim := { program := "ytnpppcfbnomjiaa", sum := "8c63c6af2711fac019e06b2ed52cc83fe95fe34afe6be31a575c4228dfc4d5a8", func := "forebay/forebaylaw02.SealBurst", spec := "sealBurst", unfollowed := true, recurses := true, apart := false, narrowed := true }
def SealBurstUptoSaid : Prop := sealBurstUptoRow.holds Try.pinned (OpenSpec.upto sealBurstSpec)

/-- 'forebaylaw02.SealLinear', WHERE WHAT IT READS IS OF BULK AT MOST 1048576: true; the input reads as it did. -/
def sealLinearUptoRow : OpenClaim := { program := "ytnpppcfbnomjiaa", sum := "8c63c6af2711fac019e06b2ed52cc83fe95fe34afe6be31a575c4228dfc4d5a8", func := "forebay/forebaylaw02.SealLinear", spec := "sealLinear", unfollowed := true, recurses := true, apart := false, narrowed := true }
def SealLinearUptoSaid : Prop := sealLinearUptoRow.holds Try.pinned (OpenSpec.upto sealLinearSpec)

end Rows
end Go.Proofs.Ytnpppcfbnomjiaa
