/-
  No cell of these rows narrows 'for every input' (looked for: loops, veiled, ifaces, maps, wideKeys, modest, calm, conditions, laid).
  DERIVED. THE GIVEN ROWS OF THIS SEAT. 6 by the template 'for every input the law returns true; each argument reads behind the call as it read before'; 0 by the template 'total and deterministic' (their statements: YtkhnlgdenkikoaaGreatTotals.lean).
  GIVEN WITH THE SEED: the statements are not yours to turn. If you find one false, say at which input.
  Laid BY PROGRAM, IN A SANDBOX (cutbox-rows.mjs): the forced cells as the released guide's own fill.sh prints them over the translation 3e9d66b5dab1b092… (all of the seat's roots in one cut). By AI agents, Wed Nov 11 2026. No macro, syntax, notation, axiom, sorry.
-/
import Derived.Test.YtkhnlgdenkikoaaGreatChecked
import GoSem.Claim
import GoSem.ClaimJoined
import GoSem.ClaimMapViews
import Derived.JoinedTies
import Derived.KernelRfl
namespace Go.Proofs.YtkhnlgdenkikoaaGreat
/- THE CELL 'sum', in the pinned program and in every row, IS THE sha256 OF THE DUMP (.gsa) THAT YtkhnlgdenkikoaaGreatProg.lean LOADS. Nothing in Lean hashes anything: it is a label: what it is worth is what the hold of that sum in a sandbox is worth. -/
noncomputable def Tryz.pinned : Pinned := { name := "ytkhnlgdenkikoaagreat", sum := "3e9d66b5dab1b092a2960fe1cd6f0bfcfd9b8a90d264bf93f50e7faf197a04d7", checked := Tryz.checked }
namespace Rows
def none {H : Type} : Left H := { results := [], args := [] }

/-- 'credencelaw26.CodeShort': WHATEVER THE INPUT: true; the input reads as it did. -/
def codeShortSpec : ChangeSpec := { name := "codeShort", fn := fun _ => fun
  | [d] => { results := [.lit (.bool true)], args := [d] }
  | _ => none }
def codeShortRow : OpenClaim := { program := "ytkhnlgdenkikoaagreat", sum := "3e9d66b5dab1b092a2960fe1cd6f0bfcfd9b8a90d264bf93f50e7faf197a04d7", func := "credence/credencelaw26.CodeShort", spec := "codeShort", unfollowed := true, recurses := true, apart := false }
def CodeShortSaid : Prop := codeShortRow.holds Tryz.pinned (OpenSpec.ofChange codeShortSpec)

/-- ITS FALSE NEIGHBOUR: 'it returns false'. Refute it at one input. -/
def codeShortWrong : ChangeSpec := { name := "codeShort", fn := fun _ => fun
  | [d] => { results := [.lit (.bool false)], args := [d] }
  | _ => none }
def CodeShortWrongFalsely : Prop := codeShortRow.holds Tryz.pinned (OpenSpec.ofChange codeShortWrong)

/-- 'credencelaw28.LearnChain': WHATEVER THE INPUT: true; the input reads as it did. -/
def learnChainSpec : ChangeSpec := { name := "learnChain", fn := fun _ => fun
  | [d1, d2, d3] => { results := [.lit (.bool true)], args := [d1, d2, d3] }
  | _ => none }
def learnChainRow : OpenClaim := { program := "ytkhnlgdenkikoaagreat", sum := "3e9d66b5dab1b092a2960fe1cd6f0bfcfd9b8a90d264bf93f50e7faf197a04d7", func := "credence/credencelaw28.LearnChain", spec := "learnChain", unfollowed := true, recurses := true, apart := false }
def LearnChainSaid : Prop := learnChainRow.holds Tryz.pinned (OpenSpec.ofChange learnChainSpec)

/-- ITS FALSE NEIGHBOUR: 'it returns false'. Refute it at one input. -/
def learnChainWrong : ChangeSpec := { name := "learnChain", fn := fun _ => fun
  | [d1, d2, d3] => { results := [.lit (.bool false)], args := [d1, d2, d3] }
  | _ => none }
def LearnChainWrongFalsely : Prop := learnChainRow.holds Tryz.pinned (OpenSpec.ofChange learnChainWrong)

/-- 'credencelaw28.LearnMost': WHATEVER THE INPUT: true; the input reads as it did. -/
def learnMostSpec : ChangeSpec := { name := "learnMost", fn := fun _ => fun
  | [d1, d2, d3] => { results := [.lit (.bool true)], args := [d1, d2, d3] }
  | _ => none }
def learnMostRow : OpenClaim := { program := "ytkhnlgdenkikoaagreat", sum := "3e9d66b5dab1b092a2960fe1cd6f0bfcfd9b8a90d264bf93f50e7faf197a04d7", func := "credence/credencelaw28.LearnMost", spec := "learnMost", unfollowed := true, recurses := true, apart := false }
def LearnMostSaid : Prop := learnMostRow.holds Tryz.pinned (OpenSpec.ofChange learnMostSpec)

/-- ITS FALSE NEIGHBOUR: 'it returns false'. Refute it at one input. -/
def learnMostWrong : ChangeSpec := { name := "learnMost", fn := fun _ => fun
  | [d1, d2, d3] => { results := [.lit (.bool false)], args := [d1, d2, d3] }
  | _ => none }
def LearnMostWrongFalsely : Prop := learnMostRow.holds Tryz.pinned (OpenSpec.ofChange learnMostWrong)

/-- 'credencelaw28.LearnRises': WHATEVER THE INPUT: true; the input reads as it did. -/
def learnRisesSpec : ChangeSpec := { name := "learnRises", fn := fun _ => fun
  | [d1, d2, d3] => { results := [.lit (.bool true)], args := [d1, d2, d3] }
  | _ => none }
def learnRisesRow : OpenClaim := { program := "ytkhnlgdenkikoaagreat", sum := "3e9d66b5dab1b092a2960fe1cd6f0bfcfd9b8a90d264bf93f50e7faf197a04d7", func := "credence/credencelaw28.LearnRises", spec := "learnRises", unfollowed := true, recurses := true, apart := false }
def LearnRisesSaid : Prop := learnRisesRow.holds Tryz.pinned (OpenSpec.ofChange learnRisesSpec)

/-- ITS FALSE NEIGHBOUR: 'it returns false'. Refute it at one input. -/
def learnRisesWrong : ChangeSpec := { name := "learnRises", fn := fun _ => fun
  | [d1, d2, d3] => { results := [.lit (.bool false)], args := [d1, d2, d3] }
  | _ => none }
def LearnRisesWrongFalsely : Prop := learnRisesRow.holds Tryz.pinned (OpenSpec.ofChange learnRisesWrong)

/-- 'credencetop.TopBits': WHATEVER THE INPUT: true; the input reads as it did. -/
def topBitsSpec : ChangeSpec := { name := "topBits", fn := fun _ => fun
  | [d1, d2] => { results := [.lit (.bool true)], args := [d1, d2] }
  | _ => none }
def topBitsRow : OpenClaim := { program := "ytkhnlgdenkikoaagreat", sum := "3e9d66b5dab1b092a2960fe1cd6f0bfcfd9b8a90d264bf93f50e7faf197a04d7", func := "credence/credencetop.TopBits", spec := "topBits", unfollowed := true, recurses := true, apart := false }
def TopBitsSaid : Prop := topBitsRow.holds Tryz.pinned (OpenSpec.ofChange topBitsSpec)

/-- ITS FALSE NEIGHBOUR: 'it returns false'. Refute it at one input. -/
def topBitsWrong : ChangeSpec := { name := "topBits", fn := fun _ => fun
  | [d1, d2] => { results := [.lit (.bool false)], args := [d1, d2] }
  | _ => none }
def TopBitsWrongFalsely : Prop := topBitsRow.holds Tryz.pinned (OpenSpec.ofChange topBitsWrong)

/-- 'credencetop.TopStep': WHATEVER THE INPUT: true; the input reads as it did. -/
def topStepSpec : ChangeSpec := { name := "topStep", fn := fun _ => fun
  | [d1, d2] => { results := [.lit (.bool true)], args := [d1, d2] }
  | _ => none }
def topStepRow : OpenClaim := { program := "ytkhnlgdenkikoaagreat", sum := "3e9d66b5dab1b092a2960fe1cd6f0bfcfd9b8a90d264bf93f50e7faf197a04d7", func := "credence/credencetop.TopStep", spec := "topStep", unfollowed := true, recurses := true, apart := false }
def TopStepSaid : Prop := topStepRow.holds Tryz.pinned (OpenSpec.ofChange topStepSpec)

/-- ITS FALSE NEIGHBOUR: 'it returns false'. Refute it at one input. -/
def topStepWrong : ChangeSpec := { name := "topStep", fn := fun _ => fun
  | [d1, d2] => { results := [.lit (.bool false)], args := [d1, d2] }
  | _ => none }
def TopStepWrongFalsely : Prop := topStepRow.holds Tryz.pinned (OpenSpec.ofChange topStepWrong)

/- THE SECOND FORM. 'bulk': how many values and letters a reading holds, each counted each time it is reached (what is shared counts as often as it is met; a slice's spare places count too). A statement '..UptoSaid' is the law's where the arguments, and the package variables that the reading takes, are together of bulk at most 1048576: NARROWER than '..Said'. Prove '..Said' where nothing that the law and all that it calls make is longer than what came in: it says more and counts as full. Else prove '..UptoSaid'. A law counts once. -/
mutual
def uptoBulk {H : Type} : DataW H → Nat
  | .lit (.string bytes) => bytes.length + 1
  | .lit _ => 1
  | .nil => 1
  | .ptr d => uptoBulk d + 1
  | .slice elems spare => uptoBulkAll elems + uptoBulkAll spare + 1
  | .agg parts => uptoBulkAll parts + 1
  | .iface _ d => uptoBulk d + 1
  | .map entries => uptoBulkEntries entries + 1
  | .held _ => 1
def uptoBulkAll {H : Type} : List (DataW H) → Nat
  | [] => 0
  | d :: r => uptoBulk d + uptoBulkAll r
def uptoBulkEntries {H : Type} : List (Lit × DataW H) → Nat
  | [] => 0
  | x :: r => uptoBulkEntry x + uptoBulkEntries r
def uptoBulkEntry {H : Type} : Lit × DataW H → Nat
  | (.string bytes, d) => bytes.length + uptoBulk d + 1
  | (_, d) => uptoBulk d + 1
 end
def uptoSmall : (H : Type) → List (DataW H) → Bool := fun _ ds => decide (uptoBulkAll ds ≤ 1048576)
def OpenSpec.upto (s : _root_.Go.ChangeSpec) : _root_.Go.OpenSpec := { _root_.Go.OpenSpec.ofChange s with cond := some uptoSmall }

/-- 'credencelaw26.CodeShort', WHERE WHAT IT READS IS OF BULK AT MOST 1048576: true; the input reads as it did. -/
def codeShortUptoRow : OpenClaim := { program := "ytkhnlgdenkikoaagreat", sum := "3e9d66b5dab1b092a2960fe1cd6f0bfcfd9b8a90d264bf93f50e7faf197a04d7", func := "credence/credencelaw26.CodeShort", spec := "codeShort", unfollowed := true, recurses := true, apart := false, narrowed := true }
def CodeShortUptoSaid : Prop := codeShortUptoRow.holds Tryz.pinned (OpenSpec.upto codeShortSpec)

/-- 'credencelaw28.LearnChain', WHERE WHAT IT READS IS OF BULK AT MOST 1048576: true; the input reads as it did. -/
def learnChainUptoRow : OpenClaim := { program := "ytkhnlgdenkikoaagreat", sum := "3e9d66b5dab1b092a2960fe1cd6f0bfcfd9b8a90d264bf93f50e7faf197a04d7", func := "credence/credencelaw28.LearnChain", spec := "learnChain", unfollowed := true, recurses := true, apart := false, narrowed := true }
def LearnChainUptoSaid : Prop := learnChainUptoRow.holds Tryz.pinned (OpenSpec.upto learnChainSpec)

/-- 'credencelaw28.LearnMost', WHERE WHAT IT READS IS OF BULK AT MOST 1048576: true; the input reads as it did. -/
def learnMostUptoRow : OpenClaim := { program := "ytkhnlgdenkikoaagreat", sum := "3e9d66b5dab1b092a2960fe1cd6f0bfcfd9b8a90d264bf93f50e7faf197a04d7", func := "credence/credencelaw28.LearnMost", spec := "learnMost", unfollowed := true, recurses := true, apart := false, narrowed := true }
def LearnMostUptoSaid : Prop := learnMostUptoRow.holds Tryz.pinned (OpenSpec.upto learnMostSpec)

/-- 'credencelaw28.LearnRises', WHERE WHAT IT READS IS OF BULK AT MOST 1048576: true; the input reads as it did. -/
def learnRisesUptoRow : OpenClaim := { program := "ytkhnlgdenkikoaagreat", sum := "3e9d66b5dab1b092a2960fe1cd6f0bfcfd9b8a90d264bf93f50e7faf197a04d7", func := "credence/credencelaw28.LearnRises", spec := "learnRises", unfollowed := true, recurses := true, apart := false, narrowed := true }
def LearnRisesUptoSaid : Prop := learnRisesUptoRow.holds Tryz.pinned (OpenSpec.upto learnRisesSpec)

/-- 'credencetop.TopBits', WHERE WHAT IT READS IS OF BULK AT MOST 1048576: true; the input reads as it did. -/
def topBitsUptoRow : OpenClaim := { program := "ytkhnlgdenkikoaagreat", sum := "3e9d66b5dab1b092a2960fe1cd6f0bfcfd9b8a90d264bf93f50e7faf197a04d7", func := "credence/credencetop.TopBits", spec := "topBits", unfollowed := true, recurses := true, apart := false, narrowed := true }
def TopBitsUptoSaid : Prop := topBitsUptoRow.holds Tryz.pinned (OpenSpec.upto topBitsSpec)

/-- 'credencetop.TopStep', WHERE WHAT IT READS IS OF BULK AT MOST 1048576: true; the input reads as it did. -/
def topStepUptoRow : OpenClaim := { program := "ytkhnlgdenkikoaagreat", sum := "3e9d66b5dab1b092a2960fe1cd6f0bfcfd9b8a90d264bf93f50e7faf197a04d7", func := "credence/credencetop.TopStep", spec := "topStep", unfollowed := true, recurses := true, apart := false, narrowed := true }
def TopStepUptoSaid : Prop := topStepUptoRow.holds Tryz.pinned (OpenSpec.upto topStepSpec)

end Rows
end Go.Proofs.YtkhnlgdenkikoaaGreat
