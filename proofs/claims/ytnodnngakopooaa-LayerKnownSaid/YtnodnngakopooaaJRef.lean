/- A frame's facts as the reference has them, and their layer. Conditions: numbers of their kinds. -/
import Derived.Test.YtnodnngakopooaaFNone
namespace Go.Proofs.Ytnodnngakopooaa
open Go.RowKit

theorem ref_any (x : Fa) (w : World) : Calls Try.prog 21 #[.agg x.cells] w fun e w' => e = .returned (.agg x.cells) ∧ Below w.heap.size w w' := by
  simp only [Fa.cells]
  go_enter Try.func21, Try.ntmps21
  go_wp2
  have hb : Below w.heap.size w ((w.alloc (.cells #[.bool x.key, .int .u8 x.tid, .bool x.sync, .bool x.drop, .bool x.has, .int .u8 x.tl0] 33)).alloc (.cells #[.bool x.key, .int .u8 x.tid, .bool x.sync, .bool x.drop, .bool x.has, .int .u8 x.tl0] 43)) := two_below _ _
  have hk := Blk.new (w.alloc (.cells #[.bool x.key, .int .u8 x.tid, .bool x.sync, .bool x.drop, .bool x.has, .int .u8 x.tl0] 33)) 43 #[.bool x.key, .int .u8 x.tid, .bool x.sync, .bool x.drop, .bool x.has, .int .u8 x.tl0]
  rw [World.size_alloc] at hk
  generalize (w.alloc (.cells #[.bool x.key, .int .u8 x.tid, .bool x.sync, .bool x.drop, .bool x.has, .int .u8 x.tl0] 33)).alloc (.cells #[.bool x.key, .int .u8 x.tid, .bool x.sync, .bool x.drop, .bool x.has, .int .u8 x.tl0] 43) = w1 at hb hk ⊢
  have d0 : w1.cell? ⟨w.heap.size + 1, 0, none⟩ = some (.bool x.key) := hk.cell 0
  have d1 : w1.cell? ⟨w.heap.size + 1, 1, none⟩ = some (.int .u8 x.tid) := hk.cell 1
  have d2 : w1.cell? ⟨w.heap.size + 1, 2, none⟩ = some (.bool x.sync) := hk.cell 2
  have d3 : w1.cell? ⟨w.heap.size + 1, 3, none⟩ = some (.bool x.drop) := hk.cell 3
  have d4 : w1.cell? ⟨w.heap.size + 1, 4, none⟩ = some (.bool x.has) := hk.cell 4
  have d5 : w1.cell? ⟨w.heap.size + 1, 5, none⟩ = some (.int .u8 x.tl0) := hk.cell 5
  exact bodyPost_ret (v := .agg #[.bool x.key, .int .u8 x.tid, .bool x.sync, .bool x.drop, .bool x.has, .int .u8 x.tl0]) (by simp [results, Try.results21, go_sem, d0, d1, d2, d3, d4, d5]) rfl ⟨rfl, hb⟩
theorem tid_any (x : Fa) (w : World) (hx : x.ok) : Calls Try.prog 20 #[.agg x.cells] w fun e w' => e = .returned (.int .i64 x.ly) ∧ Below w.heap.size w w' := by
  obtain ⟨key, tid, sync, drop, has, tl0⟩ := x
  obtain ⟨⟨t0, t1⟩, -⟩ := hx
  simp only at t0 t1
  simp only [Fa.cells, Fa.ly]
  cases key
  · by_cases h3 : tid ≤ 3
    · go_enter Try.func20, Try.ntmps20
      go_wp2
      go_ret
      exact ⟨ret_int (by omega), (Below.refl _ w).alloc (Nat.le_refl _) _⟩
    · go_enter Try.func20, Try.ntmps20
      go_wp2
      go_ret
      exact ⟨ret_int (by omega), (Below.refl _ w).alloc (Nat.le_refl _) _⟩
  · go_enter Try.func20, Try.ntmps20
    go_wp2
    go_ret
    exact ⟨rfl, (Below.refl _ w).alloc (Nat.le_refl _) _⟩
end Go.Proofs.Ytnodnngakopooaa
