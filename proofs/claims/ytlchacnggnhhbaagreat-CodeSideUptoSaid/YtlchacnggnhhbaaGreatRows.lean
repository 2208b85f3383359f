/-
  No cell of these rows narrows 'for every input' (looked for: loops, veiled, ifaces, maps, wideKeys, modest, calm, conditions, laid).
  DERIVED. THE GIVEN ROWS OF THIS SEAT. 5 by the template 'for every input the law returns true; each argument reads behind the call as it read before'; 0 by the template 'total and deterministic' (their statements: YtlchacnggnhhbaaGreatTotals.lean).
  GIVEN WITH THE SEED: the statements are not yours to turn. If you find one false, say at which input.
  Laid BY PROGRAM, IN A SANDBOX (cutbox-rows.mjs): the forced cells as the released guide's own fill.sh prints them over the translation 3c2147311650b6ef… (all of the seat's roots in one cut). By AI agents, Wed Nov 11 2026. No macro, syntax, notation, axiom, sorry.
-/
import Derived.Test.YtlchacnggnhhbaaGreatChecked
import GoSem.Claim
import GoSem.ClaimJoined
import GoSem.ClaimMapViews
import Derived.JoinedTies
import Derived.KernelRfl
namespace Go.Proofs.YtlchacnggnhhbaaGreat
/- THE CELL 'sum', in the pinned program and in every row, IS THE sha256 OF THE DUMP (.gsa) THAT YtlchacnggnhhbaaGreatProg.lean LOADS. Nothing in Lean hashes anything: it is a label: what it is worth is what the hold of that sum in a sandbox is worth. -/
noncomputable def Tryz.pinned : Pinned := { name := "ytlchacnggnhhbaagreat", sum := "3c2147311650b6efed3064b9f30798456c00d340e9bbd10c103353dedce92826", checked := Tryz.checked }
namespace Rows
def none {H : Type} : Left H := { results := [], args := [] }

/-- 'credencelaw26.CodeBack': WHATEVER THE INPUT: true; the input reads as it did. -/
def codeBackSpec : ChangeSpec := { name := "codeBack", fn := fun _ => fun
  | [d1, d2, d3] => { results := [.lit (.bool true)], args := [d1, d2, d3] }
  | _ => none }
def codeBackRow : OpenClaim := { program := "ytlchacnggnhhbaagreat", sum := "3c2147311650b6efed3064b9f30798456c00d340e9bbd10c103353dedce92826", func := "credence/credencelaw26.CodeBack", spec := "codeBack", unfollowed := true, recurses := true, apart := false }
def CodeBackSaid : Prop := codeBackRow.holds Tryz.pinned (OpenSpec.ofChange codeBackSpec)

/-- ITS FALSE NEIGHBOUR: 'it returns false'. Refute it at one input. -/
def codeBackWrong : ChangeSpec := { name := "codeBack", fn := fun _ => fun
  | [d1, d2, d3] => { results := [.lit (.bool false)], args := [d1, d2, d3] }
  | _ => none }
def CodeBackWrongFalsely : Prop := codeBackRow.holds Tryz.pinned (OpenSpec.ofChange codeBackWrong)

/-- 'credencelaw26.CodeShort': WHATEVER THE INPUT: true; the input reads as it did. -/
def codeShortSpec : ChangeSpec := { name := "codeShort", fn := fun _ => fun
  | [d] => { results := [.lit (.bool true)], args := [d] }
  | _ => none }
def codeShortRow : OpenClaim := { program := "ytlchacnggnhhbaagreat", sum := "3c2147311650b6efed3064b9f30798456c00d340e9bbd10c103353dedce92826", func := "credence/credencelaw26.CodeShort", spec := "codeShort", unfollowed := true, recurses := true, apart := false }
def CodeShortSaid : Prop := codeShortRow.holds Tryz.pinned (OpenSpec.ofChange codeShortSpec)

/-- ITS FALSE NEIGHBOUR: 'it returns false'. Refute it at one input. -/
def codeShortWrong : ChangeSpec := { name := "codeShort", fn := fun _ => fun
  | [d] => { results := [.lit (.bool false)], args := [d] }
  | _ => none }
def CodeShortWrongFalsely : Prop := codeShortRow.holds Tryz.pinned (OpenSpec.ofChange codeShortWrong)

/-- 'credencelaw26.CodeSide': WHATEVER THE INPUT: true; the input reads as it did. -/
def codeSideSpec : ChangeSpec := { name := "codeSide", fn := fun _ => fun
  | [d] => { results := [.lit (.bool true)], args := [d] }
  | _ => none }
def codeSideRow : OpenClaim := { program := "ytlchacnggnhhbaagreat", sum := "3c2147311650b6efed3064b9f30798456c00d340e9bbd10c103353dedce92826", func := "credence/credencelaw26.CodeSide", spec := "codeSide", unfollowed := true, recurses := true, apart := false }
def CodeSideSaid : Prop := codeSideRow.holds Tryz.pinned (OpenSpec.ofChange codeSideSpec)

/-- ITS FALSE NEIGHBOUR: 'it returns false'. Refute it at one input. -/
def codeSideWrong : ChangeSpec := { name := "codeSide", fn := fun _ => fun
  | [d] => { results := [.lit (.bool false)], args := [d] }
  | _ => none }
def CodeSideWrongFalsely : Prop := codeSideRow.holds Tryz.pinned (OpenSpec.ofChange codeSideWrong)

/-- 'credencelaw26.CodeDecode': WHATEVER THE INPUT: true; the input reads as it did. -/
def codeDecodeSpec : ChangeSpec := { name := "codeDecode", fn := fun _ => fun
  | [d1, d2] => { results := [.lit (.bool true)], args := [d1, d2] }
  | _ => none }
def codeDecodeRow : OpenClaim := { program := "ytlchacnggnhhbaagreat", sum := "3c2147311650b6efed3064b9f30798456c00d340e9bbd10c103353dedce92826", func := "credence/credencelaw26.CodeDecode", spec := "codeDecode", unfollowed := true, recurses := true, apart := false }
def CodeDecodeSaid : Prop := codeDecodeRow.holds Tryz.pinned (OpenSpec.ofChange codeDecodeSpec)

/-- ITS FALSE NEIGHBOUR: 'it returns false'. Refute it at one input. -/
def codeDecodeWrong : ChangeSpec := { name := "codeDecode", fn := fun _ => fun
  | [d1, d2] => { results := [.lit (.bool false)], args := [d1, d2] }
  | _ => none }
def CodeDecodeWrongFalsely : Prop := codeDecodeRow.holds Tryz.pinned (OpenSpec.ofChange codeDecodeWrong)

/-- 'credencelaw26.CodeEncode': WHATEVER THE INPUT: true; the input reads as it did. -/
def codeEncodeSpec : ChangeSpec := { name := "codeEncode", fn := fun _ => fun
  | [d1, d2] => { results := [.lit (.bool true)], args := [d1, d2] }
  | _ => none }
def codeEncodeRow : OpenClaim := { program := "ytlchacnggnhhbaagreat", sum := "3c2147311650b6efed3064b9f30798456c00d340e9bbd10c103353dedce92826", func := "credence/credencelaw26.CodeEncode", spec := "codeEncode", unfollowed := true, recurses := true, apart := false }
def CodeEncodeSaid : Prop := codeEncodeRow.holds Tryz.pinned (OpenSpec.ofChange codeEncodeSpec)

/-- ITS FALSE NEIGHBOUR: 'it returns false'. Refute it at one input. -/
def codeEncodeWrong : ChangeSpec := { name := "codeEncode", fn := fun _ => fun
  | [d1, d2] => { results := [.lit (.bool false)], args := [d1, d2] }
  | _ => none }
def CodeEncodeWrongFalsely : Prop := codeEncodeRow.holds Tryz.pinned (OpenSpec.ofChange codeEncodeWrong)

/- THE SECOND FORM. 'bulk': how many values and letters a reading holds, each counted each time it is reached (what is shared counts as often as it is met; a slice's spare places count too). A statement '..UptoSaid' is the law's where the arguments, and the package variables that the reading takes, are together of bulk at most 1048576: NARROWER than '..Said'. Prove '..Said' where nothing that the law and all that it calls make is longer than what came in: it says more and counts as full. Else prove '..UptoSaid'. A law counts once. -/
mutual
def uptoBulk {H : Type} : DataW H → Nat
  | .lit (.string bytes) => bytes.length + 1
  | .lit _ => 1
  | .nil => 1
  | .ptr d => uptoBulk d + 1
  | .slice elems spare => uptoBulkAll elems + uptoBulkAll spare + 1
  | .agg parts => uptoBulkAll parts + 1
  | .iface _ d => uptoBulk d + 1
  | .map entries => uptoBulkEntries entries + 1
  | .held _ => 1
def uptoBulkAll {H : Type} : List (DataW H) → Nat
  | [] => 0
  | d :: r => uptoBulk d + uptoBulkAll r
def uptoBulkEntries {H : Type} : List (Lit × DataW H) → Nat
  | [] => 0
  | x :: r => uptoBulkEntry x + uptoBulkEntries r
def uptoBulkEntry {H : Type} : Lit × DataW H → Nat
  | (.string bytes, d) => bytes.length + uptoBulk d + 1
  | (_, d) => uptoBulk d + 1
 end
def uptoSmall : (H : Type) → List (DataW H) → Bool := fun _ ds => decide (uptoBulkAll ds ≤ 1048576)
def OpenSpec.upto (s : _root_.Go.ChangeSpec) : _root_.Go.OpenSpec := { _root_.Go.OpenSpec.ofChange s with cond := some uptoSmall }

/-- 'credencelaw26.CodeBack', WHERE WHAT IT READS IS OF BULK AT MOST 1048576: true; the input reads as it did. -/
def codeBackUptoRow : OpenClaim := { program := "ytlchacnggnhhbaagreat", sum := "3c2147311650b6efed3064b9f30798456c00d340e9bbd10c103353dedce92826", func := "credence/credencelaw26.CodeBack", spec := "codeBack", unfollowed := true, recurses := true, apart := false, narrowed := true }
def CodeBackUptoSaid : Prop := codeBackUptoRow.holds Tryz.pinned (OpenSpec.upto codeBackSpec)

/-- 'credencelaw26.CodeShort', WHERE WHAT IT READS IS OF BULK AT MOST 1048576: true; the input reads as it did. -/
def codeShortUptoRow : OpenClaim := { program := "ytlchacnggnhhbaagreat", sum := "3c2147311650b6efed3064b9f30798456c00d340e9bbd10c103353dedce92826", func := "credence/credencelaw26.CodeShort", spec := "codeShort", unfollowed := true, recurses := true, apart := false, narrowed := true }
def CodeShortUptoSaid : Prop := codeShortUptoRow.holds Tryz.pinned (OpenSpec.upto codeShortSpec)

/-- 'credencelaw26.CodeSide', WHERE WHAT IT READS IS OF BULK AT MOST 1048576: true; the input reads as it did. -/
def codeSideUptoRow : OpenClaim := { program := "ytlchacnggnhhbaagreat", sum := "3c2147311650b6efed3064b9f30798456c00d340e9bbd10c103353dedce92826", func := "credence/credencelaw26.CodeSide", spec := "codeSide", unfollowed := true, recurses := true, apart := false, narrowed := true }
def CodeSideUptoSaid : Prop := codeSideUptoRow.holds Tryz.pinned (OpenSpec.upto codeSideSpec)

/-- 'credencelaw26.CodeDecode', WHERE WHAT IT READS IS OF BULK AT MOST 1048576: true; the input reads as it did. -/
def codeDecodeUptoRow : OpenClaim := { program := "ytlchacnggnhhbaagreat", sum := "3c2147311650b6efed3064b9f30798456c00d340e9bbd10c103353dedce92826", func := "credence/credencelaw26.CodeDecode", spec := "codeDecode", unfollowed := true, recurses := true, apart := false, narrowed := true }
def CodeDecodeUptoSaid : Prop := codeDecodeUptoRow.holds Tryz.pinned (OpenSpec.upto codeDecodeSpec)

/-- 'credencelaw26.CodeEncode', WHERE WHAT IT READS IS OF BULK AT MOST 1048576: true; the input reads as it did. -/
def codeEncodeUptoRow : OpenClaim := { program := "ytlchacnggnhhbaagreat", sum := "3c2147311650b6efed3064b9f30798456c00d340e9bbd10c103353dedce92826", func := "credence/credencelaw26.CodeEncode", spec := "codeEncode", unfollowed := true, recurses := true, apart := false, narrowed := true }
def CodeEncodeUptoSaid : Prop := codeEncodeUptoRow.holds Tryz.pinned (OpenSpec.upto codeEncodeSpec)

end Rows
end Go.Proofs.YtlchacnggnhhbaaGreat
