/- The reference's small functions by contracts. Conditions: numbers of their kinds. -/
import Derived.Test.YtnodnngakopooaaJRef
import Derived.Test.YtnodnngakopooaaHLaw
namespace Go.Proofs.Ytnodnngakopooaa
open Go.RowKit

/-- A filter, as the reference has it. -/
def rc (asked now : Int) (stopped has : Bool) (tl0 : Int) (one two three : Bool) : Array Value := #[.int .i64 asked, .int .i64 now, .bool stopped, .bool has, .int .u8 tl0, .bool one, .bool two, .bool three]
def Fl.rc (f : Fl) : Array Value := Ytnodnngakopooaa.rc f.asked f.now f.stopped f.told f.num f.m1 f.m2 f.m3
/-- A frame's facts. -/
def xc (key : Bool) (tid : Int) (sync drop has : Bool) (tl0 : Int) : Array Value := #[.bool key, .int .u8 tid, .bool sync, .bool drop, .bool has, .int .u8 tl0]

theorem rnew_any (w : World) : Calls Try.prog 22 #[] w fun e w' => e = .returned (.agg new.rc) ∧ w' = w.alloc (.cells new.rc 46) := by
  go_enter Try.func22, Try.ntmps22
  go_wp2
  exact bodyPost_ret (v := .agg new.rc) (by simp [results, Try.results22, go_sem, new, Fl.rc, rc]) rfl ⟨rfl, rfl⟩
set_option maxHeartbeats 4000000 in
theorem miss_ref (asked now : Int) (stopped has : Bool) (tl0 : Int) (one two three : Bool) (t : Int) (R : Array Value) (w : World) (ht : t = 1 ∨ t = 2 ∨ t = 3) (hR : R = rc asked now stopped has tl0 (one || decide (t = 1)) (two || decide (t = 2)) (three || decide (t = 3))) :
    Calls Try.prog 52 #[.agg (rc asked now stopped has tl0 one two three), .int .i64 t] w fun e w' => e = .returned (.agg R) ∧ w' = (w.alloc (.cells R 46)).alloc (.cells R 46) := by
  subst hR
  simp only [rc]
  rcases ht with rfl | rfl | rfl
  all_goals cases one <;> cases two <;> cases three
  all_goals
    go_enter Try.func52, Try.ntmps52
    go_wp2
    exact bodyPost_ret (v := .agg #[.int .i64 asked, .int .i64 now, .bool stopped, .bool has, .int .u8 tl0, .bool _, .bool _, .bool _]) (by simp [results, Try.results52, go_sem]; try rfl) rfl ⟨rfl, rfl⟩
theorem based_ref (asked now : Int) (stopped has : Bool) (tl0 : Int) (one two three : Bool) (key : Bool) (tid : Int) (sync drop xhas : Bool) (xtl0 : Int) (w : World) :
    Calls Try.prog 53 #[.agg (rc asked now stopped has tl0 one two three), .agg (xc key tid sync drop xhas xtl0)] w fun e w' => e = .returned (.agg (rc asked now false xhas xtl0 false false false)) ∧
      w' = ((w.alloc (.cells (rc asked now stopped has tl0 one two three) 46)).alloc (.cells (xc key tid sync drop xhas xtl0) 43)).alloc (.cells (rc asked now false xhas xtl0 false false false) 46) := by
  simp only [rc, xc]
  go_enter Try.func53, Try.ntmps53
  go_wp2
  exact bodyPost_ret (v := .agg (rc asked now false xhas xtl0 false false false)) (by simp [results, Try.results53, go_sem, rc]) rfl ⟨rfl, rfl⟩
theorem tid_ref (x : Fa) (w : World) (hx : x.ok) : Calls Try.prog 20 #[.agg x.cells] w fun e w' => e = .returned (.int .i64 x.ly) ∧ w' = w.alloc (.cells x.cells 43) := by
  obtain ⟨key, tid, sync, drop, has, tl0⟩ := x
  obtain ⟨⟨t0, t1⟩, -⟩ := hx
  simp only at t0 t1
  simp only [Fa.cells, Fa.ly]
  cases key
  · by_cases h3 : tid ≤ 3
    · go_enter Try.func20, Try.ntmps20
      go_wp2
      go_ret
      exact ⟨ret_int (by omega), rfl⟩
    · go_enter Try.func20, Try.ntmps20
      go_wp2
      go_ret
      exact ⟨ret_int (by omega), rfl⟩
  · go_enter Try.func20, Try.ntmps20
    go_wp2
    go_ret
    exact ⟨rfl, rfl⟩
/-- Was a layer above now, up to some one, missed? -/
def missedB (now : Int) (one two three : Bool) (t : Int) : Bool := one && decide (now < 1) && decide (1 ≤ t) || two && decide (now < 2) && decide (2 ≤ t) || three && decide (now < 3) && decide (3 ≤ t)
set_option maxHeartbeats 4000000 in
theorem missed_ref (asked now : Int) (stopped has : Bool) (tl0 : Int) (one two three : Bool) (t : Int) (m : Bool) (w : World) (hm : missedB now one two three t = m) :
    Calls Try.prog 54 #[.agg (rc asked now stopped has tl0 one two three), .int .i64 t] w fun e w' => e = .returned (.bool m) ∧ w' = w.alloc (.cells (rc asked now stopped has tl0 one two three) 46) := by
  subst hm
  simp only [rc]
  cases one <;> cases two <;> cases three
  all_goals
    go_enter Try.func54, Try.ntmps54
    go_wp2
  all_goals (
    go_ret
    exact ⟨ret_bool (by unfold missedB; rw [Bool.eq_iff_iff]; simp; try omega), rfl⟩)
end Go.Proofs.Ytnodnngakopooaa
