/-
  No cell of these rows narrows 'for every input' (looked for: loops, veiled, ifaces, maps, wideKeys, modest, calm, conditions, laid).
  DERIVED. THE GIVEN ROWS OF THIS SEAT. 9 by the template 'for every input the law returns true; each argument reads behind the call as it read before'; 0 by the template 'total and deterministic' (their statements: YtgkofjmeopbkbaaTotals.lean).
  GIVEN WITH THE SEED: the statements are not yours to turn. If you find one false, say at which input.
  Laid BY PROGRAM, IN A SANDBOX (cutbox-rows.mjs): the forced cells as the released guide's own fill.sh prints them over the translation ab7be11be845680c… (all of the seat's roots in one cut). By AI agents, Wed Nov 11 2026. No macro, syntax, notation, axiom, sorry.
-/
import Derived.Test.YtgkofjmeopbkbaaChecked
import GoSem.Claim
import GoSem.ClaimJoined
import GoSem.ClaimMapViews
import Derived.JoinedTies
import Derived.KernelRfl
namespace Go.Proofs.Ytgkofjmeopbkbaa
/- THE CELL 'sum', in the pinned program and in every row, IS THE sha256 OF THE DUMP (.gsa) THAT YtgkofjmeopbkbaaProg.lean LOADS. Nothing in Lean hashes anything: it is a label: what it is worth is what the hold of that sum in a sandbox is worth. -/
noncomputable def Try.pinned : Pinned := { name := "ytgkofjmeopbkbaa", sum := "ab7be11be845680c801d958c90478e7d14c51a2dff3c0e42663f29e2f8a9a7f6", checked := Try.checked }
namespace Rows
def none {H : Type} : Left H := { results := [], args := [] }

/-- 'credencelaw15.GraphPerfect': WHATEVER THE INPUT: true; the input reads as it did. -/
def graphPerfectSpec : ChangeSpec := { name := "graphPerfect", fn := fun _ => fun
  | [d1, d2] => { results := [.lit (.bool true)], args := [d1, d2] }
  | _ => none }
def graphPerfectRow : OpenClaim := { program := "ytgkofjmeopbkbaa", sum := "ab7be11be845680c801d958c90478e7d14c51a2dff3c0e42663f29e2f8a9a7f6", func := "credence/credencelaw15.GraphPerfect", spec := "graphPerfect", inPlace := ["slices.overlaps[int]", "maps.clone"], unfollowed := true, recurses := true, apart := false }
def GraphPerfectSaid : Prop := graphPerfectRow.holds Try.pinned (OpenSpec.ofChange graphPerfectSpec)

/-- ITS FALSE NEIGHBOUR: 'it returns false'. Refute it at one input. -/
def graphPerfectWrong : ChangeSpec := { name := "graphPerfect", fn := fun _ => fun
  | [d1, d2] => { results := [.lit (.bool false)], args := [d1, d2] }
  | _ => none }
def GraphPerfectWrongFalsely : Prop := graphPerfectRow.holds Try.pinned (OpenSpec.ofChange graphPerfectWrong)

/-- 'credencelaw15.GraphMoral': WHATEVER THE INPUT: true; the input reads as it did. -/
def graphMoralSpec : ChangeSpec := { name := "graphMoral", fn := fun _ => fun
  | [d1, d2] => { results := [.lit (.bool true)], args := [d1, d2] }
  | _ => none }
def graphMoralRow : OpenClaim := { program := "ytgkofjmeopbkbaa", sum := "ab7be11be845680c801d958c90478e7d14c51a2dff3c0e42663f29e2f8a9a7f6", func := "credence/credencelaw15.GraphMoral", spec := "graphMoral", inPlace := ["slices.overlaps[int]", "maps.clone"], unfollowed := true, recurses := true, apart := false }
def GraphMoralSaid : Prop := graphMoralRow.holds Try.pinned (OpenSpec.ofChange graphMoralSpec)

/-- ITS FALSE NEIGHBOUR: 'it returns false'. Refute it at one input. -/
def graphMoralWrong : ChangeSpec := { name := "graphMoral", fn := fun _ => fun
  | [d1, d2] => { results := [.lit (.bool false)], args := [d1, d2] }
  | _ => none }
def GraphMoralWrongFalsely : Prop := graphMoralRow.holds Try.pinned (OpenSpec.ofChange graphMoralWrong)

/-- 'credencelaw15.GraphFilled': WHATEVER THE INPUT: true; the input reads as it did. -/
def graphFilledSpec : ChangeSpec := { name := "graphFilled", fn := fun _ => fun
  | [d1, d2, d3] => { results := [.lit (.bool true)], args := [d1, d2, d3] }
  | _ => none }
def graphFilledRow : OpenClaim := { program := "ytgkofjmeopbkbaa", sum := "ab7be11be845680c801d958c90478e7d14c51a2dff3c0e42663f29e2f8a9a7f6", func := "credence/credencelaw15.GraphFilled", spec := "graphFilled", inPlace := ["slices.overlaps[int]", "maps.clone"], unfollowed := true, recurses := true, apart := false }
def GraphFilledSaid : Prop := graphFilledRow.holds Try.pinned (OpenSpec.ofChange graphFilledSpec)

/-- ITS FALSE NEIGHBOUR: 'it returns false'. Refute it at one input. -/
def graphFilledWrong : ChangeSpec := { name := "graphFilled", fn := fun _ => fun
  | [d1, d2, d3] => { results := [.lit (.bool false)], args := [d1, d2, d3] }
  | _ => none }
def GraphFilledWrongFalsely : Prop := graphFilledRow.holds Try.pinned (OpenSpec.ofChange graphFilledWrong)

/-- 'credencelaw15.GraphScript': WHATEVER THE INPUT: true; the input reads as it did. -/
def graphScriptSpec : ChangeSpec := { name := "graphScript", fn := fun _ => fun
  | [d] => { results := [.lit (.bool true)], args := [d] }
  | _ => none }
def graphScriptRow : OpenClaim := { program := "ytgkofjmeopbkbaa", sum := "ab7be11be845680c801d958c90478e7d14c51a2dff3c0e42663f29e2f8a9a7f6", func := "credence/credencelaw15.GraphScript", spec := "graphScript", inPlace := ["slices.overlaps[int]", "maps.clone"], unfollowed := true, recurses := true, apart := false }
def GraphScriptSaid : Prop := graphScriptRow.holds Try.pinned (OpenSpec.ofChange graphScriptSpec)

/-- ITS FALSE NEIGHBOUR: 'it returns false'. Refute it at one input. -/
def graphScriptWrong : ChangeSpec := { name := "graphScript", fn := fun _ => fun
  | [d] => { results := [.lit (.bool false)], args := [d] }
  | _ => none }
def GraphScriptWrongFalsely : Prop := graphScriptRow.holds Try.pinned (OpenSpec.ofChange graphScriptWrong)

/-- 'credencelaw15.GraphTold': WHATEVER THE INPUT: true; the input reads as it did. -/
def graphToldSpec : ChangeSpec := { name := "graphTold", fn := fun _ => fun
  | [d1, d2, d3] => { results := [.lit (.bool true)], args := [d1, d2, d3] }
  | _ => none }
def graphToldRow : OpenClaim := { program := "ytgkofjmeopbkbaa", sum := "ab7be11be845680c801d958c90478e7d14c51a2dff3c0e42663f29e2f8a9a7f6", func := "credence/credencelaw15.GraphTold", spec := "graphTold", inPlace := ["slices.overlaps[int]", "maps.clone"], unfollowed := true, recurses := true, apart := false }
def GraphToldSaid : Prop := graphToldRow.holds Try.pinned (OpenSpec.ofChange graphToldSpec)

/-- ITS FALSE NEIGHBOUR: 'it returns false'. Refute it at one input. -/
def graphToldWrong : ChangeSpec := { name := "graphTold", fn := fun _ => fun
  | [d1, d2, d3] => { results := [.lit (.bool false)], args := [d1, d2, d3] }
  | _ => none }
def GraphToldWrongFalsely : Prop := graphToldRow.holds Try.pinned (OpenSpec.ofChange graphToldWrong)

/-- 'credencelaw18.OrderMade': WHATEVER THE INPUT: true; the input reads as it did. -/
def orderMadeSpec : ChangeSpec := { name := "orderMade", fn := fun _ => fun
  | [d1, d2] => { results := [.lit (.bool true)], args := [d1, d2] }
  | _ => none }
def orderMadeRow : OpenClaim := { program := "ytgkofjmeopbkbaa", sum := "ab7be11be845680c801d958c90478e7d14c51a2dff3c0e42663f29e2f8a9a7f6", func := "credence/credencelaw18.OrderMade", spec := "orderMade", inPlace := ["slices.overlaps[int]"], unfollowed := true, recurses := true, apart := false }
def OrderMadeSaid : Prop := orderMadeRow.holds Try.pinned (OpenSpec.ofChange orderMadeSpec)

/-- ITS FALSE NEIGHBOUR: 'it returns false'. Refute it at one input. -/
def orderMadeWrong : ChangeSpec := { name := "orderMade", fn := fun _ => fun
  | [d1, d2] => { results := [.lit (.bool false)], args := [d1, d2] }
  | _ => none }
def OrderMadeWrongFalsely : Prop := orderMadeRow.holds Try.pinned (OpenSpec.ofChange orderMadeWrong)

/-- 'credencelaw18.OrderCliques': WHATEVER THE INPUT: true; the input reads as it did. -/
def orderCliquesSpec : ChangeSpec := { name := "orderCliques", fn := fun _ => fun
  | [d1, d2] => { results := [.lit (.bool true)], args := [d1, d2] }
  | _ => none }
def orderCliquesRow : OpenClaim := { program := "ytgkofjmeopbkbaa", sum := "ab7be11be845680c801d958c90478e7d14c51a2dff3c0e42663f29e2f8a9a7f6", func := "credence/credencelaw18.OrderCliques", spec := "orderCliques", inPlace := ["slices.overlaps[int]"], unfollowed := true, recurses := true, apart := false }
def OrderCliquesSaid : Prop := orderCliquesRow.holds Try.pinned (OpenSpec.ofChange orderCliquesSpec)

/-- ITS FALSE NEIGHBOUR: 'it returns false'. Refute it at one input. -/
def orderCliquesWrong : ChangeSpec := { name := "orderCliques", fn := fun _ => fun
  | [d1, d2] => { results := [.lit (.bool false)], args := [d1, d2] }
  | _ => none }
def OrderCliquesWrongFalsely : Prop := orderCliquesRow.holds Try.pinned (OpenSpec.ofChange orderCliquesWrong)

/-- 'credencelaw18.OrderCheck': WHATEVER THE INPUT: true; the input reads as it did. -/
def orderCheckSpec : ChangeSpec := { name := "orderCheck", fn := fun _ => fun
  | [d1, d2] => { results := [.lit (.bool true)], args := [d1, d2] }
  | _ => none }
def orderCheckRow : OpenClaim := { program := "ytgkofjmeopbkbaa", sum := "ab7be11be845680c801d958c90478e7d14c51a2dff3c0e42663f29e2f8a9a7f6", func := "credence/credencelaw18.OrderCheck", spec := "orderCheck", inPlace := ["slices.overlaps[int]"], unfollowed := true, recurses := true, apart := false }
def OrderCheckSaid : Prop := orderCheckRow.holds Try.pinned (OpenSpec.ofChange orderCheckSpec)

/-- ITS FALSE NEIGHBOUR: 'it returns false'. Refute it at one input. -/
def orderCheckWrong : ChangeSpec := { name := "orderCheck", fn := fun _ => fun
  | [d1, d2] => { results := [.lit (.bool false)], args := [d1, d2] }
  | _ => none }
def OrderCheckWrongFalsely : Prop := orderCheckRow.holds Try.pinned (OpenSpec.ofChange orderCheckWrong)

/-- 'credencelaw18.OrderCovers': WHATEVER THE INPUT: true; the input reads as it did. -/
def orderCoversSpec : ChangeSpec := { name := "orderCovers", fn := fun _ => fun
  | [d1, d2] => { results := [.lit (.bool true)], args := [d1, d2] }
  | _ => none }
def orderCoversRow : OpenClaim := { program := "ytgkofjmeopbkbaa", sum := "ab7be11be845680c801d958c90478e7d14c51a2dff3c0e42663f29e2f8a9a7f6", func := "credence/credencelaw18.OrderCovers", spec := "orderCovers", inPlace := ["slices.overlaps[int]", "maps.clone"], unfollowed := true, recurses := true, apart := false }
def OrderCoversSaid : Prop := orderCoversRow.holds Try.pinned (OpenSpec.ofChange orderCoversSpec)

/-- ITS FALSE NEIGHBOUR: 'it returns false'. Refute it at one input. -/
def orderCoversWrong : ChangeSpec := { name := "orderCovers", fn := fun _ => fun
  | [d1, d2] => { results := [.lit (.bool false)], args := [d1, d2] }
  | _ => none }
def OrderCoversWrongFalsely : Prop := orderCoversRow.holds Try.pinned (OpenSpec.ofChange orderCoversWrong)

/- THE SECOND FORM. 'bulk': how many values and letters a reading holds, each counted each time it is reached (what is shared counts as often as it is met; a slice's spare places count too). A statement '..UptoSaid' is the law's where the arguments, and the package variables that the reading takes, are together of bulk at most 1048576: NARROWER than '..Said'. Prove '..Said' where nothing that the law and all that it calls make is longer than what came in: it says more and counts as full. Else prove '..UptoSaid'. A law counts once. -/
mutual
def uptoBulk {H : Type} : DataW H → Nat
  | .lit (.string bytes) => bytes.length + 1
  | .lit _ => 1
  | .nil => 1
  | .ptr d => uptoBulk d + 1
  | .slice elems spare => uptoBulkAll elems + uptoBulkAll spare + 1
  | .agg parts => uptoBulkAll parts + 1
  | .iface _ d => uptoBulk d + 1
  | .map entries => uptoBulkEntries entries + 1
  | .held _ => 1
def uptoBulkAll {H : Type} : List (DataW H) → Nat
  | [] => 0
  | d :: r => uptoBulk d + uptoBulkAll r
def uptoBulkEntries {H : Type} : List (Lit × DataW H) → Nat
  | [] => 0
  | x :: r => uptoBulkEntry x + uptoBulkEntries r
def uptoBulkEntry {H : Type} : Lit × DataW H → Nat
  | (.string bytes, d) => bytes.length + uptoBulk d + 1
  | (_, d) => uptoBulk d + 1
 end
def uptoSmall : (H : Type) → List (DataW H) → Bool := fun _ ds => decide (uptoBulkAll ds ≤ 1048576)
def OpenSpec.upto (s : _root_.Go.ChangeSpec) : _root_.Go.OpenSpec := { _root_.Go.OpenSpec.ofChange s with cond := some uptoSmall }

/-- 'credencelaw15.GraphPerfect', WHERE WHAT IT READS IS OF BULK AT MOST 1048576: true; the input reads as it did. -/
def graphPerfectUptoRow : OpenClaim := { program := "ytgkofjmeopbkbaa", sum := "ab7be11be845680c801d958c90478e7d14c51a2dff3c0e42663f29e2f8a9a7f6", func := "credence/credencelaw15.GraphPerfect", spec := "graphPerfect", inPlace := ["slices.overlaps[int]", "maps.clone"], unfollowed := true, recurses := true, apart := false, narrowed := true }
def GraphPerfectUptoSaid : Prop := graphPerfectUptoRow.holds Try.pinned (OpenSpec.upto graphPerfectSpec)

/-- 'credencelaw15.GraphMoral', WHERE WHAT IT READS IS OF BULK AT MOST 1048576: true; the input reads as it did. -/
def graphMoralUptoRow : OpenClaim := { program := "ytgkofjmeopbkbaa", sum := "ab7be11be845680c801d958c90478e7d14c51a2dff3c0e42663f29e2f8a9a7f6", func := "credence/credencelaw15.GraphMoral", spec := "graphMoral", inPlace := ["slices.overlaps[int]", "maps.clone"], unfollowed := true, recurses := true, apart := false, narrowed := true }
def GraphMoralUptoSaid : Prop := graphMoralUptoRow.holds Try.pinned (OpenSpec.upto graphMoralSpec)

/-- 'credencelaw15.GraphFilled', WHERE WHAT IT READS IS OF BULK AT MOST 1048576: true; the input reads as it did. -/
def graphFilledUptoRow : OpenClaim := { program := "ytgkofjmeopbkbaa", sum := "ab7be11be845680c801d958c90478e7d14c51a2dff3c0e42663f29e2f8a9a7f6", func := "credence/credencelaw15.GraphFilled", spec := "graphFilled", inPlace := ["slices.overlaps[int]", "maps.clone"], unfollowed := true, recurses := true, apart := false, narrowed := true }
def GraphFilledUptoSaid : Prop := graphFilledUptoRow.holds Try.pinned (OpenSpec.upto graphFilledSpec)

/-- 'credencelaw15.GraphScript', WHERE WHAT IT READS IS OF BULK AT MOST 1048576: true; the input reads as it did. -/
def graphScriptUptoRow : OpenClaim := { program := "ytgkofjmeopbkbaa", sum := "ab7be11be845680c801d958c90478e7d14c51a2dff3c0e42663f29e2f8a9a7f6", func := "credence/credencelaw15.GraphScript", spec := "graphScript", inPlace := ["slices.overlaps[int]", "maps.clone"], unfollowed := true, recurses := true, apart := false, narrowed := true }
def GraphScriptUptoSaid : Prop := graphScriptUptoRow.holds Try.pinned (OpenSpec.upto graphScriptSpec)

/-- 'credencelaw15.GraphTold', WHERE WHAT IT READS IS OF BULK AT MOST 1048576: true; the input reads as it did. -/
def graphToldUptoRow : OpenClaim := { program := "ytgkofjmeopbkbaa", sum := "ab7be11be845680c801d958c90478e7d14c51a2dff3c0e42663f29e2f8a9a7f6", func := "credence/credencelaw15.GraphTold", spec := "graphTold", inPlace := ["slices.overlaps[int]", "maps.clone"], unfollowed := true, recurses := true, apart := false, narrowed := true }
def GraphToldUptoSaid : Prop := graphToldUptoRow.holds Try.pinned (OpenSpec.upto graphToldSpec)

/-- 'credencelaw18.OrderMade', WHERE WHAT IT READS IS OF BULK AT MOST 1048576: true; the input reads as it did. -/
def orderMadeUptoRow : OpenClaim := { program := "ytgkofjmeopbkbaa", sum := "ab7be11be845680c801d958c90478e7d14c51a2dff3c0e42663f29e2f8a9a7f6", func := "credence/credencelaw18.OrderMade", spec := "orderMade", inPlace := ["slices.overlaps[int]"], unfollowed := true, recurses := true, apart := false, narrowed := true }
def OrderMadeUptoSaid : Prop := orderMadeUptoRow.holds Try.pinned (OpenSpec.upto orderMadeSpec)

/-- 'credencelaw18.OrderCliques', WHERE WHAT IT READS IS OF BULK AT MOST 1048576: true; the input reads as it did. -/
def orderCliquesUptoRow : OpenClaim := { program := "ytgkofjmeopbkbaa", sum := "ab7be11be845680c801d958c90478e7d14c51a2dff3c0e42663f29e2f8a9a7f6", func := "credence/credencelaw18.OrderCliques", spec := "orderCliques", inPlace := ["slices.overlaps[int]"], unfollowed := true, recurses := true, apart := false, narrowed := true }
def OrderCliquesUptoSaid : Prop := orderCliquesUptoRow.holds Try.pinned (OpenSpec.upto orderCliquesSpec)

/-- 'credencelaw18.OrderCheck', WHERE WHAT IT READS IS OF BULK AT MOST 1048576: true; the input reads as it did. -/
def orderCheckUptoRow : OpenClaim := { program := "ytgkofjmeopbkbaa", sum := "ab7be11be845680c801d958c90478e7d14c51a2dff3c0e42663f29e2f8a9a7f6", func := "credence/credencelaw18.OrderCheck", spec := "orderCheck", inPlace := ["slices.overlaps[int]"], unfollowed := true, recurses := true, apart := false, narrowed := true }
def OrderCheckUptoSaid : Prop := orderCheckUptoRow.holds Try.pinned (OpenSpec.upto orderCheckSpec)

/-- 'credencelaw18.OrderCovers', WHERE WHAT IT READS IS OF BULK AT MOST 1048576: true; the input reads as it did. -/
def orderCoversUptoRow : OpenClaim := { program := "ytgkofjmeopbkbaa", sum := "ab7be11be845680c801d958c90478e7d14c51a2dff3c0e42663f29e2f8a9a7f6", func := "credence/credencelaw18.OrderCovers", spec := "orderCovers", inPlace := ["slices.overlaps[int]", "maps.clone"], unfollowed := true, recurses := true, apart := false, narrowed := true }
def OrderCoversUptoSaid : Prop := orderCoversUptoRow.holds Try.pinned (OpenSpec.upto orderCoversSpec)

end Rows
end Go.Proofs.Ytgkofjmeopbkbaa
