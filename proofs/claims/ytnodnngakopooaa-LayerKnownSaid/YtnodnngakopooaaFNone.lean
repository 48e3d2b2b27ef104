/- A filter that is not there answers so: the walk of the law LayerNone. Conditions: numbers of their kinds. -/
import Derived.Test.YtnodnngakopooaaEWorks
namespace Go.Proofs.Ytnodnngakopooaa
open Go.RowKit

theorem cap_nil (n : Int) (w : World) : Calls Try.prog 16 #[.pointer none, .int .i64 n] w fun e w' => e = .returned (.tuple #[]) ∧ w = w' := by
  go_enter Try.func16, Try.ntmps16
  go_wp2
  refine bodyPost_ret (results_none rfl _ _ _) rfl ?_
  exact ⟨rfl, rfl⟩
theorem halt_nil (w : World) : Calls Try.prog 17 #[.pointer none] w fun e w' => e = .returned (.tuple #[]) ∧ w = w' := by
  go_enter Try.func17, Try.ntmps17
  go_wp2
  go_end0
  exact ⟨rfl, rfl⟩
theorem frame_nil (x : Fa) (w : World) : Calls Try.prog 18 #[.pointer none, .agg x.cells] w fun e w' => e = .returned (.int .i64 1) ∧ Below w.heap.size w w' := by
  simp only [Fa.cells]
  go_enter Try.func18, Try.ntmps18
  go_wp2
  go_ret
  exact ⟨rfl, (Below.refl _ w).alloc (Nat.le_refl _) _⟩
theorem asked_nil (w : World) : Calls Try.prog 19 #[.pointer none] w fun e w' => e = .returned (.int .i64 (-1)) ∧ w = w' := by
  go_enter Try.func19, Try.ntmps19
  go_wp2
  go_ret
  exact ⟨rfl, rfl⟩
theorem now_nil (w : World) : Calls Try.prog 12 #[.pointer none] w fun e w' => e = .returned (.int .i64 (-1)) ∧ w = w' := by
  go_enter Try.func12, Try.ntmps12
  go_wp2
  go_ret
  exact ⟨rfl, rfl⟩
theorem stopped_nil (w : World) : Calls Try.prog 13 #[.pointer none] w fun e w' => e = .returned (.bool true) ∧ w = w' := by
  go_enter Try.func13, Try.ntmps13
  go_wp2
  go_ret
  exact ⟨rfl, rfl⟩
theorem copy_nil (w : World) : Calls Try.prog 24 #[.pointer none] w fun e w' => e = .returned (.pointer none) ∧ w = w' := by
  go_enter Try.func24, Try.ntmps24
  go_wp2
  go_ret
  exact ⟨rfl, rfl⟩
set_option maxHeartbeats 2000000 in
theorem none_walk (x : Fa) (n : Int) (w : World) (hx : x.ok) : Calls Try.prog 6 #[.agg x.cells, .int .i64 n] w fun e w' => e = .returned (.bool true) ∧ Below w.heap.size w w' := by
  have HF := fun W => frame_nil x W
  have HL := fun W => lost_nil true x.tid x.drop W hx.1.1 hx.1.2
  rw [show Fa.cells x = #[.bool x.key, .int .u8 x.tid, .bool x.sync, .bool x.drop, .bool x.has, .int .u8 x.tl0] from rfl] at HF ⊢
  go_enter Try.func6, Try.ntmps6
  go_wp2_with (first
    | (go_at_call 16; refine (cap_nil _ _).mono ?_; rintro e w' ⟨rfl, rfl⟩)
    | (go_at_call 17; refine (halt_nil _).mono ?_; rintro e w' ⟨rfl, rfl⟩))
  obtain ⟨w1, hw1⟩ : ∃ w1, w.alloc (.cells #[.bool x.key, .int .u8 x.tid, .bool x.sync, .bool x.drop, .bool x.has, .int .u8 x.tl0] 33) = w1 := ⟨_, rfl⟩
  have hy1 : Blk w1 w.heap.size 33 x.cells := by rw [← hw1]; exact Blk.new w 33 _
  have hb1 : Below w.heap.size w w1 := by rw [← hw1]; exact (Below.refl _ w).alloc (Nat.le_refl _) _
  rw [hw1]
  clear hw1
  refine (HF w1).mono ?_
  rintro e w2 ⟨rfl, hb2⟩
  have hy2 := hy1.below hb2 hy1.lt
  have y1 : w2.cell? ⟨w.heap.size, 1, none⟩ = some (.int .u8 x.tid) := hy2.cell 1
  have y3 : w2.cell? ⟨w.heap.size, 3, none⟩ = some (.bool x.drop) := hy2.cell 3
  have HB := Lib.hid (hb1.trans (hb2.mono hb1.size))
  clear hy1 hb1 hb2 hy2 HF
  go_wp2_with (first
    | (go_at_call 15; refine (HL _).mono ?_; rintro e w3 ⟨rfl, hb3⟩; have HB3 := Lib.hid (HB.out.trans (hb3.mono HB.out.size)); clear hb3 HL y1 y3)
    | (go_at_call 19; refine (asked_nil _).mono ?_; rintro e w' ⟨rfl, rfl⟩)
    | (go_at_call 12; refine (now_nil _).mono ?_; rintro e w' ⟨rfl, rfl⟩)
    | (go_at_call 13; refine (stopped_nil _).mono ?_; rintro e w' ⟨rfl, rfl⟩)
    | (go_at_call 24; refine (copy_nil _).mono ?_; rintro e w' ⟨rfl, rfl⟩)
    | (go_at_call 8; refine (works_any _).mono ?_; rintro e w4 ⟨rfl, hb4⟩; have HB4 := Lib.hid (HB3.out.trans (hb4.mono HB3.out.size)); clear hb4))
  go_ret
  exact ⟨rfl, HB4.out⟩
end Go.Proofs.Ytnodnngakopooaa
