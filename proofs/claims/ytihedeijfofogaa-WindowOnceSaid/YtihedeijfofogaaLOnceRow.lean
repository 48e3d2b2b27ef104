/- The law WindowOnce, its walk, its arguments in their order. Conditions: none but that each argument is of its kind. -/
import Derived.Test.YtihedeijfofogaaLOnce
namespace Go.Proofs.Ytihedeijfofogaa
open Go.RowKit
theorem once_row (sz : Int) (A : Option Addr) (len cap : Nat) (zs : List Int) (base : Int) (w : World) (w0 : (Lit.int .i64 sz).wf = true) (w1 : IsRow .u64 w A len cap zs) (w2 : (Lit.int .u64 base).wf = true) :
    Calls Try.prog 3 #[.int .i64 sz, .slice A len cap, .int .u64 base] w fun e w' => e = .returned (.bool true) ∧ Below w.heap.size w w' := once_law sz base A len cap zs w w0 w1 w2
end Go.Proofs.Ytihedeijfofogaa
