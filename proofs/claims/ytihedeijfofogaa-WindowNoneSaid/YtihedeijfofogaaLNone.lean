/- The law WindowNone, its walk. Conditions: none. -/
import Derived.Test.YtihedeijfofogaaJWorks
namespace Go.Proofs.Ytihedeijfofogaa
open Go.RowKit
theorem none_law (n : Int) (w : World) (_hn : (Lit.int .u64 n).wf = true) : Calls Try.prog 4 #[.int .u64 n] w fun e w' => e = .returned (.bool true) ∧ Below w.heap.size w w' := none_walk n w
end Go.Proofs.Ytihedeijfofogaa
