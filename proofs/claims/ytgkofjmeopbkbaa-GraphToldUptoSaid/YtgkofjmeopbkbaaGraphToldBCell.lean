import Derived.Test.YtgkofjmeopbkbaaGraphToldBQue
namespace Go.Proofs.Ytgkofjmeopbkbaa
open Go Go.RowKit
section
variable {P : Program} {m : Nat} {w : World}
end

/-! ### results in cells, and loops over functions -/
section
variable {P : Program} {m : Nat} {w : World} {col : Col}
end
end Go.Proofs.Ytgkofjmeopbkbaa
