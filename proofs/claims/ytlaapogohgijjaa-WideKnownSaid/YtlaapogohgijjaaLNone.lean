/- An extender that is not there answers so: the walk of the law WideNone. Conditions: none but that each argument is of its kind. -/
import Derived.Test.YtlaapogohgijjaaDWorks
namespace Go.Proofs.Ytlaapogohgijjaa
open Go.RowKit
theorem none_any (n x : Int) (w : World) (_w0 : (Lit.int .u32 n).wf = true) (_w1 : (Lit.int .u64 x).wf = true) :
    Calls Try.prog 6 #[.int .u32 n, .int .u64 x] w fun e w' => e = .returned (.bool true) ∧ Below w.heap.size w w' := by
  go_enter Try.func6, Try.ntmps6
  go_wp2_with (first
    | (go_at_call 19; refine (next_nil _ _).mono ?_; rintro e w' ⟨rfl, rfl⟩)
    | (go_at_call 14; refine (top_nil _).mono ?_; rintro e w' ⟨rfl, rfl⟩)
    | (go_at_call 15; refine (peek_nil _ _).mono ?_; rintro e w' ⟨rfl, rfl⟩)
    | (go_at_call 17; refine (cut_nil _ _).mono ?_; rintro e w' ⟨rfl, rfl⟩)
    | (go_at_call 12; refine (works_any _).mono ?_; rintro e w' ⟨rfl, hb⟩))
  go_ret
  exact ⟨rfl, hb⟩
end Go.Proofs.Ytlaapogohgijjaa
