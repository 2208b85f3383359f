/-
  No cell of these rows narrows 'for every input' (looked for: loops, veiled, ifaces, maps, wideKeys, modest, calm, conditions, laid).
  DERIVED. THE GIVEN ROWS OF THIS SEAT. 3 by the template 'for every input the law returns true; each argument reads behind the call as it read before'; 0 by the template 'total and deterministic' (their statements: YthclpfhncgpnmaaGreatTotals.lean).
  GIVEN WITH THE SEED: the statements are not yours to turn. If you find one false, say at which input.
  Laid BY PROGRAM, IN A SANDBOX (cutbox-rows.mjs): the forced cells as the released guide's own fill.sh prints them over the translation eec920504262ee1b… (all of the seat's roots in one cut). By AI agents, Wed Nov 11 2026. No macro, syntax, notation, axiom, sorry.
-/
import Derived.Test.YthclpfhncgpnmaaGreatChecked
import GoSem.Claim
import GoSem.ClaimJoined
import GoSem.ClaimMapViews
import Derived.JoinedTies
import Derived.KernelRfl
namespace Go.Proofs.YthclpfhncgpnmaaGreat
/- THE CELL 'sum', in the pinned program and in every row, IS THE sha256 OF THE DUMP (.gsa) THAT YthclpfhncgpnmaaGreatProg.lean LOADS. Nothing in Lean hashes anything: it is a label: what it is worth is what the hold of that sum in a sandbox is worth. -/
noncomputable def Tryz.pinned : Pinned := { name := "ythclpfhncgpnmaagreat", sum := "eec920504262ee1bfbfa6dd2b55cd2e0da25732eaa68e09d38d1ab6e9d900ee5", checked := Tryz.checked }
namespace Rows
def none {H : Type} : Left H := { results := [], args := [] }

/-- 'credencelaw20.JointAll': WHATEVER THE INPUT: true; the input reads as it did. -/
def jointAllSpec : ChangeSpec := { name := "jointAll", fn := fun _ => fun
  | [d1, d2] => { results := [.lit (.bool true)], args := [d1, d2] }
  | _ => none }
def jointAllRow : OpenClaim := { program := "ythclpfhncgpnmaagreat", sum := "eec920504262ee1bfbfa6dd2b55cd2e0da25732eaa68e09d38d1ab6e9d900ee5", func := "credence/credencelaw20.JointAll", spec := "jointAll", unfollowed := true, recurses := true, apart := false }
def JointAllSaid : Prop := jointAllRow.holds Tryz.pinned (OpenSpec.ofChange jointAllSpec)

/-- ITS FALSE NEIGHBOUR: 'it returns false'. Refute it at one input. -/
def jointAllWrong : ChangeSpec := { name := "jointAll", fn := fun _ => fun
  | [d1, d2] => { results := [.lit (.bool false)], args := [d1, d2] }
  | _ => none }
def JointAllWrongFalsely : Prop := jointAllRow.holds Tryz.pinned (OpenSpec.ofChange jointAllWrong)

/-- 'credencelaw28.LearnStep': WHATEVER THE INPUT: true; the input reads as it did. -/
def learnStepSpec : ChangeSpec := { name := "learnStep", fn := fun _ => fun
  | [d1, d2] => { results := [.lit (.bool true)], args := [d1, d2] }
  | _ => none }
def learnStepRow : OpenClaim := { program := "ythclpfhncgpnmaagreat", sum := "eec920504262ee1bfbfa6dd2b55cd2e0da25732eaa68e09d38d1ab6e9d900ee5", func := "credence/credencelaw28.LearnStep", spec := "learnStep", unfollowed := true, recurses := true, apart := false }
def LearnStepSaid : Prop := learnStepRow.holds Tryz.pinned (OpenSpec.ofChange learnStepSpec)

/-- ITS FALSE NEIGHBOUR: 'it returns false'. Refute it at one input. -/
def learnStepWrong : ChangeSpec := { name := "learnStep", fn := fun _ => fun
  | [d1, d2] => { results := [.lit (.bool false)], args := [d1, d2] }
  | _ => none }
def LearnStepWrongFalsely : Prop := learnStepRow.holds Tryz.pinned (OpenSpec.ofChange learnStepWrong)

/-- 'credencelaw20.JointTable': WHATEVER THE INPUT: true; the input reads as it did. -/
def jointTableSpec : ChangeSpec := { name := "jointTable", fn := fun _ => fun
  | [d1, d2, d3] => { results := [.lit (.bool true)], args := [d1, d2, d3] }
  | _ => none }
def jointTableRow : OpenClaim := { program := "ythclpfhncgpnmaagreat", sum := "eec920504262ee1bfbfa6dd2b55cd2e0da25732eaa68e09d38d1ab6e9d900ee5", func := "credence/credencelaw20.JointTable", spec := "jointTable", unfollowed := true, recurses := true, apart := false }
def JointTableSaid : Prop := jointTableRow.holds Tryz.pinned (OpenSpec.ofChange jointTableSpec)

/-- ITS FALSE NEIGHBOUR: 'it returns false'. Refute it at one input. -/
def jointTableWrong : ChangeSpec := { name := "jointTable", fn := fun _ => fun
  | [d1, d2, d3] => { results := [.lit (.bool false)], args := [d1, d2, d3] }
  | _ => none }
def JointTableWrongFalsely : Prop := jointTableRow.holds Tryz.pinned (OpenSpec.ofChange jointTableWrong)

/- THE SECOND FORM. 'bulk': how many values and letters a reading holds, each counted each time it is reached (what is shared counts as often as it is met; a slice's spare places count too). A statement '..UptoSaid' is the law's where the arguments, and the package variables that the reading takes, are together of bulk at most 1048576: NARROWER than '..Said'. Prove '..Said' where nothing that the law and all that it calls make is longer than what came in: it says more and counts as full. Else prove '..UptoSaid'. A law counts once. -/
mutual
def uptoBulk {H : Type} : DataW H → Nat
  | .lit (.string bytes) => bytes.length + 1
  | .lit _ => 1
  | .nil => 1
  | .ptr d => uptoBulk d + 1
  | .slice elems spare => uptoBulkAll elems + uptoBulkAll spare + 1
  | .agg parts => uptoBulkAll parts + 1
  | .iface _ d => uptoBulk d + 1
  | .map entries => uptoBulkEntries entries + 1
  | .held _ => 1
def uptoBulkAll {H : Type} : List (DataW H) → Nat
  | [] => 0
  | d :: r => uptoBulk d + uptoBulkAll r
def uptoBulkEntries {H : Type} : List (Lit × DataW H) → Nat
  | [] => 0
  | x :: r => uptoBulkEntry x + uptoBulkEntries r
def uptoBulkEntry {H : Type} : Lit × DataW H → Nat
  | (.string bytes, d) => bytes.length + uptoBulk d + 1
  | (_, d) => uptoBulk d + 1
 end
def uptoSmall : (H : Type) → List (DataW H) → Bool := fun _ ds => decide (uptoBulkAll ds ≤ 1048576)
def OpenSpec.upto (s : _root_.Go.ChangeSpec) : _root_.Go.OpenSpec := { _root_.Go.OpenSpec.ofChange s with cond := some uptoSmall }

/-- 'credencelaw20.JointAll', WHERE WHAT IT READS IS OF BULK AT MOST 1048576: true; the input reads as it did. -/
def jointAllUptoRow : OpenClaim := { program := "ythclpfhncgpnmaagreat", sum := "eec920504262ee1bfbfa6dd2b55cd2e0da25732eaa68e09d38d1ab6e9d900ee5", func := "credence/credencelaw20.JointAll", spec := "jointAll", unfollowed := true, recurses := true, apart := false, narrowed := true }
def JointAllUptoSaid : Prop := jointAllUptoRow.holds Tryz.pinned (OpenSpec.upto jointAllSpec)

/-- 'credencelaw28.LearnStep', WHERE WHAT IT READS IS OF BULK AT MOST 1048576: true; the input reads as it did. -/
def learnStepUptoRow : OpenClaim := { program := "ythclpfhncgpnmaagreat", sum := "eec920504262ee1bfbfa6dd2b55cd2e0da25732eaa68e09d38d1ab6e9d900ee5", func := "credence/credencelaw28.LearnStep", spec := "learnStep", unfollowed := true, recurses := true, apart := false, narrowed := true }
def LearnStepUptoSaid : Prop := learnStepUptoRow.holds Tryz.pinned (OpenSpec.upto learnStepSpec)

/-- 'credencelaw20.JointTable', WHERE WHAT IT READS IS OF BULK AT MOST 1048576: true; the input reads as it did. -/
def jointTableUptoRow : OpenClaim := { program := "ythclpfhncgpnmaagreat", sum := "eec920504262ee1bfbfa6dd2b55cd2e0da25732eaa68e09d38d1ab6e9d900ee5", func := "credence/credencelaw20.JointTable", spec := "jointTable", unfollowed := true, recurses := true, apart := false, narrowed := true }
def JointTableUptoSaid : Prop := jointTableUptoRow.holds Tryz.pinned (OpenSpec.upto jointTableSpec)

end Rows
end Go.Proofs.YthclpfhncgpnmaaGreat
