/-
  No cell of these rows narrows 'for every input' (looked for: loops, veiled, ifaces, maps, wideKeys, modest, calm, conditions, laid).
  DERIVED. THE GIVEN ROWS OF THIS SEAT. 12 by the template 'for every input the law returns true; each argument reads behind the call as it read before'; 0 by the template 'total and deterministic' (their statements: YtbmjpjhbankpoaaGreatTotals.lean).
  GIVEN WITH THE SEED: the statements are not yours to turn. If you find one false, say at which input.
  Laid BY PROGRAM, IN A SANDBOX (cutbox-rows.mjs): the forced cells as the released guide's own fill.sh prints them over the translation bff69fd7d7799976… (all of the seat's roots in one cut). By AI agents, Wed Nov 11 2026. No macro, syntax, notation, axiom, sorry.
-/
import Derived.Test.YtbmjpjhbankpoaaGreatChecked
import GoSem.Claim
import GoSem.ClaimJoined
import GoSem.ClaimMapViews
import Derived.JoinedTies
import Derived.KernelRfl
namespace Go.Proofs.YtbmjpjhbankpoaaGreat
/- THE CELL 'sum', in the pinned program and in every row, IS THE sha256 OF THE DUMP (.gsa) THAT YtbmjpjhbankpoaaGreatProg.lean LOADS. Nothing in Lean hashes anything: it is a label: what it is worth is what the hold of that sum in a sandbox is worth. -/
noncomputable def Tryz.pinned : Pinned := { name := "ytbmjpjhbankpoaagreat", sum := "bff69fd7d77999767c28b3beba7b5235a70eae42628a0261a204ab7a17259030", checked := Tryz.checked }
namespace Rows
def none {H : Type} : Left H := { results := [], args := [] }

/-- 'credencelaw23.QueryCheck': WHATEVER THE INPUT: true; the input reads as it did. -/
def queryCheckSpec : ChangeSpec := { name := "queryCheck", fn := fun _ => fun
  | [d1, d2] => { results := [.lit (.bool true)], args := [d1, d2] }
  | _ => none }
def queryCheckRow : OpenClaim := { program := "ytbmjpjhbankpoaagreat", sum := "bff69fd7d77999767c28b3beba7b5235a70eae42628a0261a204ab7a17259030", func := "credence/credencelaw23.QueryCheck", spec := "queryCheck", unfollowed := true, recurses := true, apart := false }
def QueryCheckSaid : Prop := queryCheckRow.holds Tryz.pinned (OpenSpec.ofChange queryCheckSpec)

/-- ITS FALSE NEIGHBOUR: 'it returns false'. Refute it at one input. -/
def queryCheckWrong : ChangeSpec := { name := "queryCheck", fn := fun _ => fun
  | [d1, d2] => { results := [.lit (.bool false)], args := [d1, d2] }
  | _ => none }
def QueryCheckWrongFalsely : Prop := queryCheckRow.holds Tryz.pinned (OpenSpec.ofChange queryCheckWrong)

/-- 'credencelaw26.CodeSpan': WHATEVER THE INPUT: true; the input reads as it did. -/
def codeSpanSpec : ChangeSpec := { name := "codeSpan", fn := fun _ => fun
  | [d1, d2] => { results := [.lit (.bool true)], args := [d1, d2] }
  | _ => none }
def codeSpanRow : OpenClaim := { program := "ytbmjpjhbankpoaagreat", sum := "bff69fd7d77999767c28b3beba7b5235a70eae42628a0261a204ab7a17259030", func := "credence/credencelaw26.CodeSpan", spec := "codeSpan", unfollowed := true, recurses := true, apart := false }
def CodeSpanSaid : Prop := codeSpanRow.holds Tryz.pinned (OpenSpec.ofChange codeSpanSpec)

/-- ITS FALSE NEIGHBOUR: 'it returns false'. Refute it at one input. -/
def codeSpanWrong : ChangeSpec := { name := "codeSpan", fn := fun _ => fun
  | [d1, d2] => { results := [.lit (.bool false)], args := [d1, d2] }
  | _ => none }
def CodeSpanWrongFalsely : Prop := codeSpanRow.holds Tryz.pinned (OpenSpec.ofChange codeSpanWrong)

/-- 'credencelaw26.CodeAt': WHATEVER THE INPUT: true; the input reads as it did. -/
def codeAtSpec : ChangeSpec := { name := "codeAt", fn := fun _ => fun
  | [d1, d2] => { results := [.lit (.bool true)], args := [d1, d2] }
  | _ => none }
def codeAtRow : OpenClaim := { program := "ytbmjpjhbankpoaagreat", sum := "bff69fd7d77999767c28b3beba7b5235a70eae42628a0261a204ab7a17259030", func := "credence/credencelaw26.CodeAt", spec := "codeAt", unfollowed := true, recurses := true, apart := false }
def CodeAtSaid : Prop := codeAtRow.holds Tryz.pinned (OpenSpec.ofChange codeAtSpec)

/-- ITS FALSE NEIGHBOUR: 'it returns false'. Refute it at one input. -/
def codeAtWrong : ChangeSpec := { name := "codeAt", fn := fun _ => fun
  | [d1, d2] => { results := [.lit (.bool false)], args := [d1, d2] }
  | _ => none }
def CodeAtWrongFalsely : Prop := codeAtRow.holds Tryz.pinned (OpenSpec.ofChange codeAtWrong)

/-- 'credencelaw26.CodeDecode': WHATEVER THE INPUT: true; the input reads as it did. -/
def codeDecodeSpec : ChangeSpec := { name := "codeDecode", fn := fun _ => fun
  | [d1, d2] => { results := [.lit (.bool true)], args := [d1, d2] }
  | _ => none }
def codeDecodeRow : OpenClaim := { program := "ytbmjpjhbankpoaagreat", sum := "bff69fd7d77999767c28b3beba7b5235a70eae42628a0261a204ab7a17259030", func := "credence/credencelaw26.CodeDecode", spec := "codeDecode", unfollowed := true, recurses := true, apart := false }
def CodeDecodeSaid : Prop := codeDecodeRow.holds Tryz.pinned (OpenSpec.ofChange codeDecodeSpec)

/-- ITS FALSE NEIGHBOUR: 'it returns false'. Refute it at one input. -/
def codeDecodeWrong : ChangeSpec := { name := "codeDecode", fn := fun _ => fun
  | [d1, d2] => { results := [.lit (.bool false)], args := [d1, d2] }
  | _ => none }
def CodeDecodeWrongFalsely : Prop := codeDecodeRow.holds Tryz.pinned (OpenSpec.ofChange codeDecodeWrong)

/-- 'credencelaw28.LearnScore': WHATEVER THE INPUT: true; the input reads as it did. -/
def learnScoreSpec : ChangeSpec := { name := "learnScore", fn := fun _ => fun
  | [d1, d2] => { results := [.lit (.bool true)], args := [d1, d2] }
  | _ => none }
def learnScoreRow : OpenClaim := { program := "ytbmjpjhbankpoaagreat", sum := "bff69fd7d77999767c28b3beba7b5235a70eae42628a0261a204ab7a17259030", func := "credence/credencelaw28.LearnScore", spec := "learnScore", unfollowed := true, recurses := true, apart := false }
def LearnScoreSaid : Prop := learnScoreRow.holds Tryz.pinned (OpenSpec.ofChange learnScoreSpec)

/-- ITS FALSE NEIGHBOUR: 'it returns false'. Refute it at one input. -/
def learnScoreWrong : ChangeSpec := { name := "learnScore", fn := fun _ => fun
  | [d1, d2] => { results := [.lit (.bool false)], args := [d1, d2] }
  | _ => none }
def LearnScoreWrongFalsely : Prop := learnScoreRow.holds Tryz.pinned (OpenSpec.ofChange learnScoreWrong)

/-- 'credencelaw26.CodeEncode': WHATEVER THE INPUT: true; the input reads as it did. -/
def codeEncodeSpec : ChangeSpec := { name := "codeEncode", fn := fun _ => fun
  | [d1, d2] => { results := [.lit (.bool true)], args := [d1, d2] }
  | _ => none }
def codeEncodeRow : OpenClaim := { program := "ytbmjpjhbankpoaagreat", sum := "bff69fd7d77999767c28b3beba7b5235a70eae42628a0261a204ab7a17259030", func := "credence/credencelaw26.CodeEncode", spec := "codeEncode", unfollowed := true, recurses := true, apart := false }
def CodeEncodeSaid : Prop := codeEncodeRow.holds Tryz.pinned (OpenSpec.ofChange codeEncodeSpec)

/-- ITS FALSE NEIGHBOUR: 'it returns false'. Refute it at one input. -/
def codeEncodeWrong : ChangeSpec := { name := "codeEncode", fn := fun _ => fun
  | [d1, d2] => { results := [.lit (.bool false)], args := [d1, d2] }
  | _ => none }
def CodeEncodeWrongFalsely : Prop := codeEncodeRow.holds Tryz.pinned (OpenSpec.ofChange codeEncodeWrong)

/-- 'credencelaw20.JointAll': WHATEVER THE INPUT: true; the input reads as it did. -/
def jointAllSpec : ChangeSpec := { name := "jointAll", fn := fun _ => fun
  | [d1, d2] => { results := [.lit (.bool true)], args := [d1, d2] }
  | _ => none }
def jointAllRow : OpenClaim := { program := "ytbmjpjhbankpoaagreat", sum := "bff69fd7d77999767c28b3beba7b5235a70eae42628a0261a204ab7a17259030", func := "credence/credencelaw20.JointAll", spec := "jointAll", unfollowed := true, recurses := true, apart := false }
def JointAllSaid : Prop := jointAllRow.holds Tryz.pinned (OpenSpec.ofChange jointAllSpec)

/-- ITS FALSE NEIGHBOUR: 'it returns false'. Refute it at one input. -/
def jointAllWrong : ChangeSpec := { name := "jointAll", fn := fun _ => fun
  | [d1, d2] => { results := [.lit (.bool false)], args := [d1, d2] }
  | _ => none }
def JointAllWrongFalsely : Prop := jointAllRow.holds Tryz.pinned (OpenSpec.ofChange jointAllWrong)

/-- 'credencelaw20.JointSum': WHATEVER THE INPUT: true; the input reads as it did. -/
def jointSumSpec : ChangeSpec := { name := "jointSum", fn := fun _ => fun
  | [d1, d2, d3] => { results := [.lit (.bool true)], args := [d1, d2, d3] }
  | _ => none }
def jointSumRow : OpenClaim := { program := "ytbmjpjhbankpoaagreat", sum := "bff69fd7d77999767c28b3beba7b5235a70eae42628a0261a204ab7a17259030", func := "credence/credencelaw20.JointSum", spec := "jointSum", unfollowed := true, recurses := true, apart := false }
def JointSumSaid : Prop := jointSumRow.holds Tryz.pinned (OpenSpec.ofChange jointSumSpec)

/-- ITS FALSE NEIGHBOUR: 'it returns false'. Refute it at one input. -/
def jointSumWrong : ChangeSpec := { name := "jointSum", fn := fun _ => fun
  | [d1, d2, d3] => { results := [.lit (.bool false)], args := [d1, d2, d3] }
  | _ => none }
def JointSumWrongFalsely : Prop := jointSumRow.holds Tryz.pinned (OpenSpec.ofChange jointSumWrong)

/-- 'credencelaw28.LearnStep': WHATEVER THE INPUT: true; the input reads as it did. -/
def learnStepSpec : ChangeSpec := { name := "learnStep", fn := fun _ => fun
  | [d1, d2] => { results := [.lit (.bool true)], args := [d1, d2] }
  | _ => none }
def learnStepRow : OpenClaim := { program := "ytbmjpjhbankpoaagreat", sum := "bff69fd7d77999767c28b3beba7b5235a70eae42628a0261a204ab7a17259030", func := "credence/credencelaw28.LearnStep", spec := "learnStep", unfollowed := true, recurses := true, apart := false }
def LearnStepSaid : Prop := learnStepRow.holds Tryz.pinned (OpenSpec.ofChange learnStepSpec)

/-- ITS FALSE NEIGHBOUR: 'it returns false'. Refute it at one input. -/
def learnStepWrong : ChangeSpec := { name := "learnStep", fn := fun _ => fun
  | [d1, d2] => { results := [.lit (.bool false)], args := [d1, d2] }
  | _ => none }
def LearnStepWrongFalsely : Prop := learnStepRow.holds Tryz.pinned (OpenSpec.ofChange learnStepWrong)

/-- 'credencelaw20.JointTable': WHATEVER THE INPUT: true; the input reads as it did. -/
def jointTableSpec : ChangeSpec := { name := "jointTable", fn := fun _ => fun
  | [d1, d2, d3] => { results := [.lit (.bool true)], args := [d1, d2, d3] }
  | _ => none }
def jointTableRow : OpenClaim := { program := "ytbmjpjhbankpoaagreat", sum := "bff69fd7d77999767c28b3beba7b5235a70eae42628a0261a204ab7a17259030", func := "credence/credencelaw20.JointTable", spec := "jointTable", unfollowed := true, recurses := true, apart := false }
def JointTableSaid : Prop := jointTableRow.holds Tryz.pinned (OpenSpec.ofChange jointTableSpec)

/-- ITS FALSE NEIGHBOUR: 'it returns false'. Refute it at one input. -/
def jointTableWrong : ChangeSpec := { name := "jointTable", fn := fun _ => fun
  | [d1, d2, d3] => { results := [.lit (.bool false)], args := [d1, d2, d3] }
  | _ => none }
def JointTableWrongFalsely : Prop := jointTableRow.holds Tryz.pinned (OpenSpec.ofChange jointTableWrong)

/-- 'credencelaw20.JointWhole': WHATEVER THE INPUT: true; the input reads as it did. -/
def jointWholeSpec : ChangeSpec := { name := "jointWhole", fn := fun _ => fun
  | [d] => { results := [.lit (.bool true)], args := [d] }
  | _ => none }
def jointWholeRow : OpenClaim := { program := "ytbmjpjhbankpoaagreat", sum := "bff69fd7d77999767c28b3beba7b5235a70eae42628a0261a204ab7a17259030", func := "credence/credencelaw20.JointWhole", spec := "jointWhole", unfollowed := true, recurses := true, apart := false }
def JointWholeSaid : Prop := jointWholeRow.holds Tryz.pinned (OpenSpec.ofChange jointWholeSpec)

/-- ITS FALSE NEIGHBOUR: 'it returns false'. Refute it at one input. -/
def jointWholeWrong : ChangeSpec := { name := "jointWhole", fn := fun _ => fun
  | [d] => { results := [.lit (.bool false)], args := [d] }
  | _ => none }
def JointWholeWrongFalsely : Prop := jointWholeRow.holds Tryz.pinned (OpenSpec.ofChange jointWholeWrong)

/-- 'credencelaw20.JointShares': WHATEVER THE INPUT: true; the input reads as it did. -/
def jointSharesSpec : ChangeSpec := { name := "jointShares", fn := fun _ => fun
  | [d1, d2, d3, d4] => { results := [.lit (.bool true)], args := [d1, d2, d3, d4] }
  | _ => none }
def jointSharesRow : OpenClaim := { program := "ytbmjpjhbankpoaagreat", sum := "bff69fd7d77999767c28b3beba7b5235a70eae42628a0261a204ab7a17259030", func := "credence/credencelaw20.JointShares", spec := "jointShares", unfollowed := true, recurses := true, apart := false }
def JointSharesSaid : Prop := jointSharesRow.holds Tryz.pinned (OpenSpec.ofChange jointSharesSpec)

/-- ITS FALSE NEIGHBOUR: 'it returns false'. Refute it at one input. -/
def jointSharesWrong : ChangeSpec := { name := "jointShares", fn := fun _ => fun
  | [d1, d2, d3, d4] => { results := [.lit (.bool false)], args := [d1, d2, d3, d4] }
  | _ => none }
def JointSharesWrongFalsely : Prop := jointSharesRow.holds Tryz.pinned (OpenSpec.ofChange jointSharesWrong)

/- THE SECOND FORM. 'bulk': how many values and letters a reading holds, each counted each time it is reached (what is shared counts as often as it is met; a slice's spare places count too). A statement '..UptoSaid' is the law's where the arguments, and the package variables that the reading takes, are together of bulk at most 1048576: NARROWER than '..Said'. Prove '..Said' where nothing that the law and all that it calls make is longer than what came in: it says more and counts as full. Else prove '..UptoSaid'. A law counts once. -/
mutual
def uptoBulk {H : Type} : DataW H → Nat
  | .lit (.string bytes) => bytes.length + 1
  | .lit _ => 1
  | .nil => 1
  | .ptr d => uptoBulk d + 1
  | .slice elems spare => uptoBulkAll elems + uptoBulkAll spare + 1
  | .agg parts => uptoBulkAll parts + 1
  | .iface _ d => uptoBulk d + 1
  | .map entries => uptoBulkEntries entries + 1
  | .held _ => 1
def uptoBulkAll {H : Type} : List (DataW H) → Nat
  | [] => 0
  | d :: r => uptoBulk d + uptoBulkAll r
def uptoBulkEntries {H : Type} : List (Lit × DataW H) → Nat
  | [] => 0
  | x :: r => uptoBulkEntry x + uptoBulkEntries r
def uptoBulkEntry {H : Type} : Lit × DataW H → Nat
  | (.string bytes, d) => bytes.length + uptoBulk d + 1
  | (_, d) => uptoBulk d + 1
 end
def uptoSmall : (H : Type) → List (DataW H) → Bool := fun _ ds => decide (uptoBulkAll ds ≤ 1048576)
def OpenSpec.upto (s : _root_.Go.ChangeSpec) : _root_.Go.OpenSpec := { _root_.Go.OpenSpec.ofChange s with cond := some uptoSmall }

/-- 'credencelaw23.QueryCheck', WHERE WHAT IT READS IS OF BULK AT MOST 1048576: true; the input reads as it did. -/
def queryCheckUptoRow : OpenClaim := { program := "ytbmjpjhbankpoaagreat", sum := "bff69fd7d77999767c28b3beba7b5235a70eae42628a0261a204ab7a17259030", func := "credence/credencelaw23.QueryCheck", spec := "queryCheck", unfollowed := true, recurses := true, apart := false, narrowed := true }
def QueryCheckUptoSaid : Prop := queryCheckUptoRow.holds Tryz.pinned (OpenSpec.upto queryCheckSpec)

/-- 'credencelaw26.CodeSpan', WHERE WHAT IT READS IS OF BULK AT MOST 1048576: true; the input reads as it did. -/
def codeSpanUptoRow : OpenClaim := { program := "ytbmjpjhbankpoaagreat", sum := "bff69fd7d77999767c28b3beba7b5235a70eae42628a0261a204ab7a17259030", func := "credence/credencelaw26.CodeSpan", spec := "codeSpan", unfollowed := true, recurses := true, apart := false, narrowed := true }
def CodeSpanUptoSaid : Prop := codeSpanUptoRow.holds Tryz.pinned (OpenSpec.upto codeSpanSpec)

/-- 'credencelaw26.CodeAt', WHERE WHAT IT READS IS OF BULK AT MOST 1048576: true; the input reads as it did. -/
def codeAtUptoRow : OpenClaim := { program := "ytbmjpjhbankpoaagreat", sum := "bff69fd7d77999767c28b3beba7b5235a70eae42628a0261a204ab7a17259030", func := "credence/credencelaw26.CodeAt", spec := "codeAt", unfollowed := true, recurses := true, apart := false, narrowed := true }
def CodeAtUptoSaid : Prop := codeAtUptoRow.holds Tryz.pinned (OpenSpec.upto codeAtSpec)

/-- 'credencelaw26.CodeDecode', WHERE WHAT IT READS IS OF BULK AT MOST 1048576: true; the input reads as it did. -/
def codeDecodeUptoRow : OpenClaim := { program := "ytbmjpjhbankpoaagreat", sum := "bff69fd7d77999767c28b3beba7b5235a70eae42628a0261a204ab7a17259030", func := "credence/credencelaw26.CodeDecode", spec := "codeDecode", unfollowed := true, recurses := true, apart := false, narrowed := true }
def CodeDecodeUptoSaid : Prop := codeDecodeUptoRow.holds Tryz.pinned (OpenSpec.upto codeDecodeSpec)

/-- 'credencelaw28.LearnScore', WHERE WHAT IT READS IS OF BULK AT MOST 1048576: true; the input reads as it did. -/
def learnScoreUptoRow : OpenClaim := { program := "ytbmjpjhbankpoaagreat", sum := "bff69fd7d77999767c28b3beba7b5235a70eae42628a0261a204ab7a17259030", func := "credence/credencelaw28.LearnScore", spec := "learnScore", unfollowed := true, recurses := true, apart := false, narrowed := true }
def LearnScoreUptoSaid : Prop := learnScoreUptoRow.holds Tryz.pinned (OpenSpec.upto learnScoreSpec)

/-- 'credencelaw26.CodeEncode', WHERE WHAT IT READS IS OF BULK AT MOST 1048576: true; the input reads as it did. -/
def codeEncodeUptoRow : OpenClaim := { program := "ytbmjpjhbankpoaagreat", sum := "bff69fd7d77999767c28b3beba7b5235a70eae42628a0261a204ab7a17259030", func := "credence/credencelaw26.CodeEncode", spec := "codeEncode", unfollowed := true, recurses := true, apart := false, narrowed := true }
def CodeEncodeUptoSaid : Prop := codeEncodeUptoRow.holds Tryz.pinned (OpenSpec.upto codeEncodeSpec)

/-- 'credencelaw20.JointAll', WHERE WHAT IT READS IS OF BULK AT MOST 1048576: true; the input reads as it did. -/
def jointAllUptoRow : OpenClaim := { program := "ytbmjpjhbankpoaagreat", sum := "bff69fd7d77999767c28b3beba7b5235a70eae42628a0261a204ab7a17259030", func := "credence/credencelaw20.JointAll", spec := "jointAll", unfollowed := true, recurses := true, apart := false, narrowed := true }
def JointAllUptoSaid : Prop := jointAllUptoRow.holds Tryz.pinned (OpenSpec.upto jointAllSpec)

/-- 'credencelaw20.JointSum', WHERE WHAT IT READS IS OF BULK AT MOST 1048576: true; the input reads as it did. -/
def jointSumUptoRow : OpenClaim := { program := "ytbmjpjhbankpoaagreat", sum := "bff69fd7d77999767c28b3beba7b5235a70eae42628a0261a204ab7a17259030", func := "credence/credencelaw20.JointSum", spec := "jointSum", unfollowed := true, recurses := true, apart := false, narrowed := true }
def JointSumUptoSaid : Prop := jointSumUptoRow.holds Tryz.pinned (OpenSpec.upto jointSumSpec)

/-- 'credencelaw28.LearnStep', WHERE WHAT IT READS IS OF BULK AT MOST 1048576: true; the input reads as it did. -/
def learnStepUptoRow : OpenClaim := { program := "ytbmjpjhbankpoaagreat", sum := "bff69fd7d77999767c28b3beba7b5235a70eae42628a0261a204ab7a17259030", func := "credence/credencelaw28.LearnStep", spec := "learnStep", unfollowed := true, recurses := true, apart := false, narrowed := true }
def LearnStepUptoSaid : Prop := learnStepUptoRow.holds Tryz.pinned (OpenSpec.upto learnStepSpec)

/-- 'credencelaw20.JointTable', WHERE WHAT IT READS IS OF BULK AT MOST 1048576: true; the input reads as it did. -/
def jointTableUptoRow : OpenClaim := { program := "ytbmjpjhbankpoaagreat", sum := "bff69fd7d77999767c28b3beba7b5235a70eae42628a0261a204ab7a17259030", func := "credence/credencelaw20.JointTable", spec := "jointTable", unfollowed := true, recurses := true, apart := false, narrowed := true }
def JointTableUptoSaid : Prop := jointTableUptoRow.holds Tryz.pinned (OpenSpec.upto jointTableSpec)

/-- 'credencelaw20.JointWhole', WHERE WHAT IT READS IS OF BULK AT MOST 1048576: true; the input reads as it did. -/
def jointWholeUptoRow : OpenClaim := { program := "ytbmjpjhbankpoaagreat", sum := "bff69fd7d77999767c28b3beba7b5235a70eae42628a0261a204ab7a17259030", func := "credence/credencelaw20.JointWhole", spec := "jointWhole", unfollowed := true, recurses := true, apart := false, narrowed := true }
def JointWholeUptoSaid : Prop := jointWholeUptoRow.holds Tryz.pinned (OpenSpec.upto jointWholeSpec)

/-- 'credencelaw20.JointShares', WHERE WHAT IT READS IS OF BULK AT MOST 1048576: true; the input reads as it did. -/
def jointSharesUptoRow : OpenClaim := { program := "ytbmjpjhbankpoaagreat", sum := "bff69fd7d77999767c28b3beba7b5235a70eae42628a0261a204ab7a17259030", func := "credence/credencelaw20.JointShares", spec := "jointShares", unfollowed := true, recurses := true, apart := false, narrowed := true }
def JointSharesUptoSaid : Prop := jointSharesUptoRow.holds Tryz.pinned (OpenSpec.upto jointSharesSpec)

end Rows
end Go.Proofs.YtbmjpjhbankpoaaGreat
