/-
  No cell of these rows narrows 'for every input' (looked for: loops, veiled, ifaces, maps, wideKeys, modest, calm, conditions, laid).
  DERIVED. THE GIVEN ROWS OF THIS SEAT. 3 by the template 'for every input the law returns true; each argument reads behind the call as it read before'; 0 by the template 'total and deterministic' (their statements: YtonkjfnjadofpaaGreatTotals.lean).
  GIVEN WITH THE SEED: the statements are not yours to turn. If you find one false, say at which input.
  Laid BY PROGRAM, IN A SANDBOX (cutbox-rows.mjs): the forced cells as the released guide's own fill.sh prints them over the translation 895d06d808179acd… (all of the seat's roots in one cut). By AI agents, Wed Nov 11 2026. No macro, syntax, notation, axiom, sorry.
-/
import Derived.Test.YtonkjfnjadofpaaGreatChecked
import GoSem.Claim
import GoSem.ClaimJoined
import GoSem.ClaimMapViews
import Derived.JoinedTies
import Derived.KernelRfl
namespace Go.Proofs.YtonkjfnjadofpaaGreat
/- THE CELL 'sum', in the pinned program and in every row, IS THE sha256 OF THE DUMP (.gsa) THAT YtonkjfnjadofpaaGreatProg.lean LOADS. Nothing in Lean hashes anything: it is a label: what it is worth is what the hold of that sum in a sandbox is worth. -/
noncomputable def Tryz.pinned : Pinned := { name := "ytonkjfnjadofpaagreat", sum := "895d06d808179acd91be2aa1dfdef31ba16de92f83ebe99df5ac363b8018af47", checked := Tryz.checked }
namespace Rows
def none {H : Type} : Left H := { results := [], args := [] }

/-- 'credencelaw20.JointNames': WHATEVER THE INPUT: true; the input reads as it did. -/
def jointNamesSpec : ChangeSpec := { name := "jointNames", fn := fun _ => fun
  | [] => { results := [.lit (.bool true)], args := [] }
  | _ => none }
def jointNamesRow : OpenClaim := { program := "ytonkjfnjadofpaagreat", sum := "895d06d808179acd91be2aa1dfdef31ba16de92f83ebe99df5ac363b8018af47", func := "credence/credencelaw20.JointNames", spec := "jointNames", unfollowed := true, recurses := true, apart := false }
def JointNamesSaid : Prop := jointNamesRow.holds Tryz.pinned (OpenSpec.ofChange jointNamesSpec)

/-- ITS FALSE NEIGHBOUR: 'it returns false'. Refute it at one input. -/
def jointNamesWrong : ChangeSpec := { name := "jointNames", fn := fun _ => fun
  | [] => { results := [.lit (.bool false)], args := [] }
  | _ => none }
def JointNamesWrongFalsely : Prop := jointNamesRow.holds Tryz.pinned (OpenSpec.ofChange jointNamesWrong)

/-- 'credencelaw26.CodeNames': WHATEVER THE INPUT: true; the input reads as it did. -/
def codeNamesSpec : ChangeSpec := { name := "codeNames", fn := fun _ => fun
  | [] => { results := [.lit (.bool true)], args := [] }
  | _ => none }
def codeNamesRow : OpenClaim := { program := "ytonkjfnjadofpaagreat", sum := "895d06d808179acd91be2aa1dfdef31ba16de92f83ebe99df5ac363b8018af47", func := "credence/credencelaw26.CodeNames", spec := "codeNames", unfollowed := true, recurses := true, apart := false }
def CodeNamesSaid : Prop := codeNamesRow.holds Tryz.pinned (OpenSpec.ofChange codeNamesSpec)

/-- ITS FALSE NEIGHBOUR: 'it returns false'. Refute it at one input. -/
def codeNamesWrong : ChangeSpec := { name := "codeNames", fn := fun _ => fun
  | [] => { results := [.lit (.bool false)], args := [] }
  | _ => none }
def CodeNamesWrongFalsely : Prop := codeNamesRow.holds Tryz.pinned (OpenSpec.ofChange codeNamesWrong)

/-- 'credencelaw28.LearnNames': WHATEVER THE INPUT: true; the input reads as it did. -/
def learnNamesSpec : ChangeSpec := { name := "learnNames", fn := fun _ => fun
  | [] => { results := [.lit (.bool true)], args := [] }
  | _ => none }
def learnNamesRow : OpenClaim := { program := "ytonkjfnjadofpaagreat", sum := "895d06d808179acd91be2aa1dfdef31ba16de92f83ebe99df5ac363b8018af47", func := "credence/credencelaw28.LearnNames", spec := "learnNames", unfollowed := true, recurses := true, apart := false }
def LearnNamesSaid : Prop := learnNamesRow.holds Tryz.pinned (OpenSpec.ofChange learnNamesSpec)

/-- ITS FALSE NEIGHBOUR: 'it returns false'. Refute it at one input. -/
def learnNamesWrong : ChangeSpec := { name := "learnNames", fn := fun _ => fun
  | [] => { results := [.lit (.bool false)], args := [] }
  | _ => none }
def LearnNamesWrongFalsely : Prop := learnNamesRow.holds Tryz.pinned (OpenSpec.ofChange learnNamesWrong)

/- THE SECOND FORM. 'bulk': how many values and letters a reading holds, each counted each time it is reached (what is shared counts as often as it is met; a slice's spare places count too). A statement '..UptoSaid' is the law's where the arguments, and the package variables that the reading takes, are together of bulk at most 1048576: NARROWER than '..Said'. Prove '..Said' where nothing that the law and all that it calls make is longer than what came in: it says more and counts as full. Else prove '..UptoSaid'. A law counts once. -/
mutual
def uptoBulk {H : Type} : DataW H → Nat
  | .lit (.string bytes) => bytes.length + 1
  | .lit _ => 1
  | .nil => 1
  | .ptr d => uptoBulk d + 1
  | .slice elems spare => uptoBulkAll elems + uptoBulkAll spare + 1
  | .agg parts => uptoBulkAll parts + 1
  | .iface _ d => uptoBulk d + 1
  | .map entries => uptoBulkEntries entries + 1
  | .held _ => 1
def uptoBulkAll {H : Type} : List (DataW H) → Nat
  | [] => 0
  | d :: r => uptoBulk d + uptoBulkAll r
def uptoBulkEntries {H : Type} : List (Lit × DataW H) → Nat
  | [] => 0
  | x :: r => uptoBulkEntry x + uptoBulkEntries r
def uptoBulkEntry {H : Type} : Lit × DataW H → Nat
  | (.string bytes, d) => bytes.length + uptoBulk d + 1
  | (_, d) => uptoBulk d + 1
 end
def uptoSmall : (H : Type) → List (DataW H) → Bool := fun _ ds => decide (uptoBulkAll ds ≤ 1048576)
def OpenSpec.upto (s : _root_.Go.ChangeSpec) : _root_.Go.OpenSpec := { _root_.Go.OpenSpec.ofChange s with cond := some uptoSmall }

/-- 'credencelaw20.JointNames', WHERE WHAT IT READS IS OF BULK AT MOST 1048576: true; the input reads as it did. -/
def jointNamesUptoRow : OpenClaim := { program := "ytonkjfnjadofpaagreat", sum := "895d06d808179acd91be2aa1dfdef31ba16de92f83ebe99df5ac363b8018af47", func := "credence/credencelaw20.JointNames", spec := "jointNames", unfollowed := true, recurses := true, apart := false, narrowed := true }
def JointNamesUptoSaid : Prop := jointNamesUptoRow.holds Tryz.pinned (OpenSpec.upto jointNamesSpec)

/-- 'credencelaw26.CodeNames', WHERE WHAT IT READS IS OF BULK AT MOST 1048576: true; the input reads as it did. -/
def codeNamesUptoRow : OpenClaim := { program := "ytonkjfnjadofpaagreat", sum := "895d06d808179acd91be2aa1dfdef31ba16de92f83ebe99df5ac363b8018af47", func := "credence/credencelaw26.CodeNames", spec := "codeNames", unfollowed := true, recurses := true, apart := false, narrowed := true }
def CodeNamesUptoSaid : Prop := codeNamesUptoRow.holds Tryz.pinned (OpenSpec.upto codeNamesSpec)

/-- 'credencelaw28.LearnNames', WHERE WHAT IT READS IS OF BULK AT MOST 1048576: true; the input reads as it did. -/
def learnNamesUptoRow : OpenClaim := { program := "ytonkjfnjadofpaagreat", sum := "895d06d808179acd91be2aa1dfdef31ba16de92f83ebe99df5ac363b8018af47", func := "credence/credencelaw28.LearnNames", spec := "learnNames", unfollowed := true, recurses := true, apart := false, narrowed := true }
def LearnNamesUptoSaid : Prop := learnNamesUptoRow.holds Tryz.pinned (OpenSpec.upto learnNamesSpec)

end Rows
end Go.Proofs.YtonkjfnjadofpaaGreat
