/- The law LayerNone, its walk. Conditions: none but that each argument is of its kind. -/
import Derived.Test.YtnodnngakopooaaFNone
import Derived.Test.YtnodnngakopooaaGOpen
namespace Go.Proofs.Ytnodnngakopooaa
open Go.RowKit
theorem none_law (v : Value) (n : Int) (w : World) (hv : IsFa v) (_hn : (Lit.int .i64 n).wf = true) : Calls Try.prog 6 #[v, .int .i64 n] w fun e w' => e = .returned (.bool true) ∧ Below w.heap.size w w' := by
  obtain ⟨x, rfl, hx⟩ := hv
  exact none_walk x n w hx
end Go.Proofs.Ytnodnngakopooaa
