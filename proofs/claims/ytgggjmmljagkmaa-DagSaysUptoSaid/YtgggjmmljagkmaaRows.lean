/-
  No cell of these rows narrows 'for every input' (looked for: loops, veiled, ifaces, maps, wideKeys, modest, calm, conditions, laid).
  DERIVED. THE GIVEN ROWS OF THIS SEAT. 5 by the template 'for every input the law returns true; each argument reads behind the call as it read before'; 0 by the template 'total and deterministic' (their statements: YtgggjmmljagkmaaTotals.lean).
  GIVEN WITH THE SEED: the statements are not yours to turn. If you find one false, say at which input.
  Laid BY PROGRAM, IN A SANDBOX (cutbox-rows.mjs): the forced cells as the released guide's own fill.sh prints them over the translation e29729a10abbc24f… (all of the seat's roots in one cut). By AI agents, Wed Nov 11 2026. No macro, syntax, notation, axiom, sorry.
-/
import Derived.Test.YtgggjmmljagkmaaChecked
import GoSem.Claim
import GoSem.ClaimJoined
import GoSem.ClaimMapViews
import Derived.JoinedTies
import Derived.KernelRfl
namespace Go.Proofs.Ytgggjmmljagkmaa
/- THE CELL 'sum', in the pinned program and in every row, IS THE sha256 OF THE DUMP (.gsa) THAT YtgggjmmljagkmaaProg.lean LOADS. Nothing in Lean hashes anything: it is a label: what it is worth is what the hold of that sum in a sandbox is worth. -/
noncomputable def Try.pinned : Pinned := { name := "ytgggjmmljagkmaa", sum := "e29729a10abbc24f678027cd61779d22f982762034e16d418385edd3fcd660b3", checked := Try.checked }
namespace Rows
def none {H : Type} : Left H := { results := [], args := [] }

/-- 'credencelaw14.DagEdges': WHATEVER THE INPUT: true; the input reads as it did. -/
def dagEdgesSpec : ChangeSpec := { name := "dagEdges", fn := fun _ => fun
  | [d] => { results := [.lit (.bool true)], args := [d] }
  | _ => none }
def dagEdgesRow : OpenClaim := { program := "ytgggjmmljagkmaa", sum := "e29729a10abbc24f678027cd61779d22f982762034e16d418385edd3fcd660b3", func := "credence/credencelaw14.DagEdges", spec := "dagEdges", apart := false }
def DagEdgesSaid : Prop := dagEdgesRow.holds Try.pinned (OpenSpec.ofChange dagEdgesSpec)

/-- ITS FALSE NEIGHBOUR: 'it returns false'. Refute it at one input. -/
def dagEdgesWrong : ChangeSpec := { name := "dagEdges", fn := fun _ => fun
  | [d] => { results := [.lit (.bool false)], args := [d] }
  | _ => none }
def DagEdgesWrongFalsely : Prop := dagEdgesRow.holds Try.pinned (OpenSpec.ofChange dagEdgesWrong)

/-- 'credencelaw14.DagNames': WHATEVER THE INPUT: true; the input reads as it did. -/
def dagNamesSpec : ChangeSpec := { name := "dagNames", fn := fun _ => fun
  | [] => { results := [.lit (.bool true)], args := [] }
  | _ => none }
def dagNamesRow : OpenClaim := { program := "ytgggjmmljagkmaa", sum := "e29729a10abbc24f678027cd61779d22f982762034e16d418385edd3fcd660b3", func := "credence/credencelaw14.DagNames", spec := "dagNames", unfollowed := true, recurses := true, apart := false }
def DagNamesSaid : Prop := dagNamesRow.holds Try.pinned (OpenSpec.ofChange dagNamesSpec)

/-- ITS FALSE NEIGHBOUR: 'it returns false'. Refute it at one input. -/
def dagNamesWrong : ChangeSpec := { name := "dagNames", fn := fun _ => fun
  | [] => { results := [.lit (.bool false)], args := [] }
  | _ => none }
def DagNamesWrongFalsely : Prop := dagNamesRow.holds Try.pinned (OpenSpec.ofChange dagNamesWrong)

/-- 'credencelaw14.DagOrder': WHATEVER THE INPUT: true; the input reads as it did. -/
def dagOrderSpec : ChangeSpec := { name := "dagOrder", fn := fun _ => fun
  | [d] => { results := [.lit (.bool true)], args := [d] }
  | _ => none }
def dagOrderRow : OpenClaim := { program := "ytgggjmmljagkmaa", sum := "e29729a10abbc24f678027cd61779d22f982762034e16d418385edd3fcd660b3", func := "credence/credencelaw14.DagOrder", spec := "dagOrder", unfollowed := true, recurses := true, apart := false }
def DagOrderSaid : Prop := dagOrderRow.holds Try.pinned (OpenSpec.ofChange dagOrderSpec)

/-- ITS FALSE NEIGHBOUR: 'it returns false'. Refute it at one input. -/
def dagOrderWrong : ChangeSpec := { name := "dagOrder", fn := fun _ => fun
  | [d] => { results := [.lit (.bool false)], args := [d] }
  | _ => none }
def DagOrderWrongFalsely : Prop := dagOrderRow.holds Try.pinned (OpenSpec.ofChange dagOrderWrong)

/-- 'credencelaw14.DagSays': WHATEVER THE INPUT: true; the input reads as it did. -/
def dagSaysSpec : ChangeSpec := { name := "dagSays", fn := fun _ => fun
  | [d1, d2] => { results := [.lit (.bool true)], args := [d1, d2] }
  | _ => none }
def dagSaysRow : OpenClaim := { program := "ytgggjmmljagkmaa", sum := "e29729a10abbc24f678027cd61779d22f982762034e16d418385edd3fcd660b3", func := "credence/credencelaw14.DagSays", spec := "dagSays", unfollowed := true, recurses := true, apart := false }
def DagSaysSaid : Prop := dagSaysRow.holds Try.pinned (OpenSpec.ofChange dagSaysSpec)

/-- ITS FALSE NEIGHBOUR: 'it returns false'. Refute it at one input. -/
def dagSaysWrong : ChangeSpec := { name := "dagSays", fn := fun _ => fun
  | [d1, d2] => { results := [.lit (.bool false)], args := [d1, d2] }
  | _ => none }
def DagSaysWrongFalsely : Prop := dagSaysRow.holds Try.pinned (OpenSpec.ofChange dagSaysWrong)

/-- 'credencelaw14.DagMirror': WHATEVER THE INPUT: true; the input reads as it did. -/
def dagMirrorSpec : ChangeSpec := { name := "dagMirror", fn := fun _ => fun
  | [d1, d2] => { results := [.lit (.bool true)], args := [d1, d2] }
  | _ => none }
def dagMirrorRow : OpenClaim := { program := "ytgggjmmljagkmaa", sum := "e29729a10abbc24f678027cd61779d22f982762034e16d418385edd3fcd660b3", func := "credence/credencelaw14.DagMirror", spec := "dagMirror", unfollowed := true, recurses := true, apart := false }
def DagMirrorSaid : Prop := dagMirrorRow.holds Try.pinned (OpenSpec.ofChange dagMirrorSpec)

/-- ITS FALSE NEIGHBOUR: 'it returns false'. Refute it at one input. -/
def dagMirrorWrong : ChangeSpec := { name := "dagMirror", fn := fun _ => fun
  | [d1, d2] => { results := [.lit (.bool false)], args := [d1, d2] }
  | _ => none }
def DagMirrorWrongFalsely : Prop := dagMirrorRow.holds Try.pinned (OpenSpec.ofChange dagMirrorWrong)

/- THE SECOND FORM. 'bulk': how many values and letters a reading holds, each counted each time it is reached (what is shared counts as often as it is met; a slice's spare places count too). A statement '..UptoSaid' is the law's where the arguments, and the package variables that the reading takes, are together of bulk at most 1048576: NARROWER than '..Said'. Prove '..Said' where nothing that the law and all that it calls make is longer than what came in: it says more and counts as full. Else prove '..UptoSaid'. A law counts once. -/
mutual
def uptoBulk {H : Type} : DataW H → Nat
  | .lit (.string bytes) => bytes.length + 1
  | .lit _ => 1
  | .nil => 1
  | .ptr d => uptoBulk d + 1
  | .slice elems spare => uptoBulkAll elems + uptoBulkAll spare + 1
  | .agg parts => uptoBulkAll parts + 1
  | .iface _ d => uptoBulk d + 1
  | .map entries => uptoBulkEntries entries + 1
  | .held _ => 1
def uptoBulkAll {H : Type} : List (DataW H) → Nat
  | [] => 0
  | d :: r => uptoBulk d + uptoBulkAll r
def uptoBulkEntries {H : Type} : List (Lit × DataW H) → Nat
  | [] => 0
  | x :: r => uptoBulkEntry x + uptoBulkEntries r
def uptoBulkEntry {H : Type} : Lit × DataW H → Nat
  | (.string bytes, d) => bytes.length + uptoBulk d + 1
  | (_, d) => uptoBulk d + 1
 end
def uptoSmall : (H : Type) → List (DataW H) → Bool := fun _ ds => decide (uptoBulkAll ds ≤ 1048576)
def OpenSpec.upto (s : _root_.Go.ChangeSpec) : _root_.Go.OpenSpec := { _root_.Go.OpenSpec.ofChange s with cond := some uptoSmall }

/-- 'credencelaw14.DagEdges', WHERE WHAT IT READS IS OF BULK AT MOST 1048576: true; the input reads as it did. -/
def dagEdgesUptoRow : OpenClaim := { program := "ytgggjmmljagkmaa", sum := "e29729a10abbc24f678027cd61779d22f982762034e16d418385edd3fcd660b3", func := "credence/credencelaw14.DagEdges", spec := "dagEdges", apart := false, narrowed := true }
def DagEdgesUptoSaid : Prop := dagEdgesUptoRow.holds Try.pinned (OpenSpec.upto dagEdgesSpec)

/-- 'credencelaw14.DagNames', WHERE WHAT IT READS IS OF BULK AT MOST 1048576: true; the input reads as it did. -/
def dagNamesUptoRow : OpenClaim := { program := "ytgggjmmljagkmaa", sum := "e29729a10abbc24f678027cd61779d22f982762034e16d418385edd3fcd660b3", func := "credence/credencelaw14.DagNames", spec := "dagNames", unfollowed := true, recurses := true, apart := false, narrowed := true }
def DagNamesUptoSaid : Prop := dagNamesUptoRow.holds Try.pinned (OpenSpec.upto dagNamesSpec)

/-- 'credencelaw14.DagOrder', WHERE WHAT IT READS IS OF BULK AT MOST 1048576: true; the input reads as it did. -/
def dagOrderUptoRow : OpenClaim := { program := "ytgggjmmljagkmaa", sum := "e29729a10abbc24f678027cd61779d22f982762034e16d418385edd3fcd660b3", func := "credence/credencelaw14.DagOrder", spec := "dagOrder", unfollowed := true, recurses := true, apart := false, narrowed := true }
def DagOrderUptoSaid : Prop := dagOrderUptoRow.holds Try.pinned (OpenSpec.upto dagOrderSpec)

/-- 'credencelaw14.DagSays', WHERE WHAT IT READS IS OF BULK AT MOST 1048576: true; the input reads as it did. -/
def dagSaysUptoRow : OpenClaim := { program := "ytgggjmmljagkmaa", sum := "e29729a10abbc24f678027cd61779d22f982762034e16d418385edd3fcd660b3", func := "credence/credencelaw14.DagSays", spec := "dagSays", unfollowed := true, recurses := true, apart := false, narrowed := true }
def DagSaysUptoSaid : Prop := dagSaysUptoRow.holds Try.pinned (OpenSpec.upto dagSaysSpec)

/-- 'credencelaw14.DagMirror', WHERE WHAT IT READS IS OF BULK AT MOST 1048576: true; the input reads as it did. -/
def dagMirrorUptoRow : OpenClaim := { program := "ytgggjmmljagkmaa", sum := "e29729a10abbc24f678027cd61779d22f982762034e16d418385edd3fcd660b3", func := "credence/credencelaw14.DagMirror", spec := "dagMirror", unfollowed := true, recurses := true, apart := false, narrowed := true }
def DagMirrorUptoSaid : Prop := dagMirrorUptoRow.holds Try.pinned (OpenSpec.upto dagMirrorSpec)

end Rows
end Go.Proofs.Ytgggjmmljagkmaa
