/- The reference's loss and cap by contracts. Conditions: numbers of their kinds. -/
import Derived.Test.YtnodnngakopooaaKRef
namespace Go.Proofs.Ytnodnngakopooaa
open Go.RowKit

/-- What is left behind a loss of the reference: the answer. -/
def Lr (w : World) (R : Array Value) (v : Bool) (e : Ending) (w' : World) : Prop := e = .returned (.tuple #[.agg R, .bool v]) ∧ Below w.heap.size w w'
theorem lr_of {w w' : World} {R : Array Value} {v : Bool} {e : Ending} (he : e = .returned (.tuple #[.agg R, .bool v])) (h : Below w.heap.size w w') : Lr w R v e w' := ⟨he, h⟩
theorem bl1 {a w : World} (h : Below a.heap.size a w) (o : Obj) : Below a.heap.size a (w.alloc o) := h.alloc h.size o
/-- What is left behind a cap of the reference. -/
def Cr (w : World) (R : Array Value) (e : Ending) (w' : World) : Prop := e = .returned (.agg R) ∧ Below w.heap.size w w'
theorem cr_of {w w' : World} {R : Array Value} {e : Ending} (he : e = .returned (.agg R)) (h : Below w.heap.size w w') : Cr w R e w' := ⟨he, h⟩
set_option maxHeartbeats 1000000 in
theorem lost0a (asked : Int) (now : Int) (told : Bool) (num : Int) (m1 : Bool) (m2 : Bool) (m3 : Bool) (known : Bool) (tid : Int) (drop : Bool) (w : World) (_t0 : 0 ≤ tid) (_t3 : tid ≤ 3) :
    Calls Try.prog 29 #[.agg (rc asked now true told num m1 m2 m3), .bool known, .int .u8 tid, .bool drop] w (Lr w (rc asked now true told num m1 m2 m3) false) := by
  simp only [rc]
  go_enter Try.func29, Try.ntmps29
  go_wp2_with fail
  refine bodyPost_ret (v := .tuple #[.agg (rc asked now true told num m1 m2 m3), .bool false]) (by simp [results, Try.results29, go_sem, rc]) rfl (lr_of rfl (bl1 (bl1 (Below.refl _ _) _) _))
set_option maxHeartbeats 1000000 in
theorem lost2a (asked : Int) (now : Int) (told : Bool) (num : Int) (m1 : Bool) (m2 : Bool) (m3 : Bool) (tid : Int) (w : World) (t1 : 1 ≤ tid) (_t3 : tid ≤ 3) :
    Calls Try.prog 29 #[.agg (rc asked now false told num m1 m2 m3), .bool true, .int .u8 tid, .bool true] w (Lr w (rc asked now false told num m1 m2 m3) false) := by
  simp only [rc]
  go_enter Try.func29, Try.ntmps29
  go_wp2_with fail
  refine bodyPost_ret (v := .tuple #[.agg (rc asked now false told num m1 m2 m3), .bool false]) (by simp [results, Try.results29, go_sem, rc]) rfl (lr_of rfl (bl1 (bl1 (Below.refl _ _) _) _))
set_option maxHeartbeats 1000000 in
theorem lost3a (asked : Int) (now : Int) (told : Bool) (num : Int) (m1 : Bool) (m2 : Bool) (m3 : Bool) (tid : Int) (n1 n2 n3 : Bool) (w : World) (t1 : 1 ≤ tid) (t3 : tid ≤ 3) (hn : tid > now) (hR : rc asked now false told num n1 n2 n3 = rc asked now false told num (m1 || decide (tid = 1)) (m2 || decide (tid = 2)) (m3 || decide (tid = 3))) :
    Calls Try.prog 29 #[.agg (rc asked now false told num m1 m2 m3), .bool true, .int .u8 tid, .bool false] w (Lr w (rc asked now false told num n1 n2 n3) false) := by
  have HR := Lib.hid hR
  clear hR
  simp only [rc]
  go_enter Try.func29, Try.ntmps29
  go_wp2_with fail
  refine (miss_ref asked now false told num m1 m2 m3 tid (rc asked now false told num n1 n2 n3) _ (by omega) HR.out).mono ?_
  rintro e w' ⟨rfl, rfl⟩
  simp only [rc]
  go_wp2_with fail
  refine bodyPost_ret (v := .tuple #[.agg (rc asked now false told num n1 n2 n3), .bool false]) (by simp [results, Try.results29, go_sem, rc]) rfl (lr_of rfl (bl1 (bl1 (bl1 (bl1 (Below.refl _ _) _) _) _) _))
set_option maxHeartbeats 1000000 in
theorem lost4a (asked : Int) (now : Int) (told : Bool) (num : Int) (m1 : Bool) (m2 : Bool) (m3 : Bool) (tid : Int) (drop : Bool) (w : World) (_t0 : 0 ≤ tid) (_t3 : tid ≤ 3) :
    Calls Try.prog 29 #[.agg (rc asked now false told num m1 m2 m3), .bool false, .int .u8 tid, .bool drop] w (Lr w (rc asked now true told num m1 m2 m3) true) := by
  simp only [rc]
  go_enter Try.func29, Try.ntmps29
  go_wp2_with fail
  refine bodyPost_ret (v := .tuple #[.agg (rc asked now true told num m1 m2 m3), .bool true]) (by simp [results, Try.results29, go_sem, rc]) rfl (lr_of rfl (bl1 (bl1 (Below.refl _ _) _) _))
set_option maxHeartbeats 1000000 in
theorem lost5a (asked : Int) (now : Int) (told : Bool) (num : Int) (m1 : Bool) (m2 : Bool) (m3 : Bool) (tid : Int) (w : World) (_t0 : 0 ≤ tid) (_t3 : tid ≤ 3) (hn : ¬ tid > now) :
    Calls Try.prog 29 #[.agg (rc asked now false told num m1 m2 m3), .bool true, .int .u8 tid, .bool false] w (Lr w (rc asked now true told num m1 m2 m3) true) := by
  simp only [rc]
  go_enter Try.func29, Try.ntmps29
  go_wp2_with fail
  refine bodyPost_ret (v := .tuple #[.agg (rc asked now true told num m1 m2 m3), .bool true]) (by simp [results, Try.results29, go_sem, rc]) rfl (lr_of rfl (bl1 (bl1 (Below.refl _ _) _) _))
set_option maxHeartbeats 1000000 in
theorem lost0b (asked : Int) (now : Int) (told : Bool) (num : Int) (m1 : Bool) (m2 : Bool) (m3 : Bool) (known : Bool) (tid : Int) (drop : Bool) (w : World) (_t4 : 3 < tid) (_t5 : tid ≤ 255) :
    Calls Try.prog 29 #[.agg (rc asked now true told num m1 m2 m3), .bool known, .int .u8 tid, .bool drop] w (Lr w (rc asked now true told num m1 m2 m3) false) := by
  simp only [rc]
  go_enter Try.func29, Try.ntmps29
  go_wp2_with fail
  refine bodyPost_ret (v := .tuple #[.agg (rc asked now true told num m1 m2 m3), .bool false]) (by simp [results, Try.results29, go_sem, rc]) rfl (lr_of rfl (bl1 (bl1 (Below.refl _ _) _) _))
set_option maxHeartbeats 1000000 in
theorem lost2b (asked : Int) (now : Int) (told : Bool) (num : Int) (m1 : Bool) (m2 : Bool) (m3 : Bool) (tid : Int) (w : World) (_t4 : 3 < tid) (_t5 : tid ≤ 255) :
    Calls Try.prog 29 #[.agg (rc asked now false told num m1 m2 m3), .bool true, .int .u8 tid, .bool true] w (Lr w (rc asked now false told num m1 m2 m3) false) := by
  simp only [rc]
  go_enter Try.func29, Try.ntmps29
  go_wp2_with fail
  refine bodyPost_ret (v := .tuple #[.agg (rc asked now false told num m1 m2 m3), .bool false]) (by simp [results, Try.results29, go_sem, rc]) rfl (lr_of rfl (bl1 (bl1 (Below.refl _ _) _) _))
set_option maxHeartbeats 1000000 in
theorem lost3b (asked : Int) (now : Int) (told : Bool) (num : Int) (m1 : Bool) (m2 : Bool) (m3 : Bool) (tid : Int) (n1 n2 n3 : Bool) (w : World) (_t4 : 3 < tid) (_t5 : tid ≤ 255) (hn : 3 > now) (hR : rc asked now false told num n1 n2 n3 = rc asked now false told num (m1 || decide (3 = 1)) (m2 || decide (3 = 2)) (m3 || decide (3 = 3))) :
    Calls Try.prog 29 #[.agg (rc asked now false told num m1 m2 m3), .bool true, .int .u8 tid, .bool false] w (Lr w (rc asked now false told num n1 n2 n3) false) := by
  have HR := Lib.hid hR
  clear hR
  simp only [rc]
  go_enter Try.func29, Try.ntmps29
  go_wp2_with fail
  refine (miss_ref asked now false told num m1 m2 m3 3 (rc asked now false told num n1 n2 n3) _ (by omega) HR.out).mono ?_
  rintro e w' ⟨rfl, rfl⟩
  simp only [rc]
  go_wp2_with fail
  refine bodyPost_ret (v := .tuple #[.agg (rc asked now false told num n1 n2 n3), .bool false]) (by simp [results, Try.results29, go_sem, rc]) rfl (lr_of rfl (bl1 (bl1 (bl1 (bl1 (Below.refl _ _) _) _) _) _))
set_option maxHeartbeats 1000000 in
theorem lost4b (asked : Int) (now : Int) (told : Bool) (num : Int) (m1 : Bool) (m2 : Bool) (m3 : Bool) (tid : Int) (drop : Bool) (w : World) (_t4 : 3 < tid) (_t5 : tid ≤ 255) :
    Calls Try.prog 29 #[.agg (rc asked now false told num m1 m2 m3), .bool false, .int .u8 tid, .bool drop] w (Lr w (rc asked now true told num m1 m2 m3) true) := by
  simp only [rc]
  go_enter Try.func29, Try.ntmps29
  go_wp2_with fail
  refine bodyPost_ret (v := .tuple #[.agg (rc asked now true told num m1 m2 m3), .bool true]) (by simp [results, Try.results29, go_sem, rc]) rfl (lr_of rfl (bl1 (bl1 (Below.refl _ _) _) _))
set_option maxHeartbeats 1000000 in
theorem lost5b (asked : Int) (now : Int) (told : Bool) (num : Int) (m1 : Bool) (m2 : Bool) (m3 : Bool) (tid : Int) (w : World) (_t4 : 3 < tid) (_t5 : tid ≤ 255) (hn : ¬ 3 > now) :
    Calls Try.prog 29 #[.agg (rc asked now false told num m1 m2 m3), .bool true, .int .u8 tid, .bool false] w (Lr w (rc asked now true told num m1 m2 m3) true) := by
  simp only [rc]
  go_enter Try.func29, Try.ntmps29
  go_wp2_with fail
  refine bodyPost_ret (v := .tuple #[.agg (rc asked now true told num m1 m2 m3), .bool true]) (by simp [results, Try.results29, go_sem, rc]) rfl (lr_of rfl (bl1 (bl1 (Below.refl _ _) _) _))
set_option maxHeartbeats 1000000 in
theorem lost1 (asked : Int) (now : Int) (told : Bool) (num : Int) (m1 : Bool) (m2 : Bool) (m3 : Bool) (w : World)  :
    Calls Try.prog 29 #[.agg (rc asked now false told num m1 m2 m3), .bool true, .int .u8 0, .bool true] w (Lr w (rc asked 0 false told num true true true) false) := by
  simp only [rc]
  go_enter Try.func29, Try.ntmps29
  go_wp2_with fail
  refine (miss_ref asked 0 false told num m1 m2 m3 1 (rc asked 0 false told num true m2 m3) _ (by omega) (by simp)).mono ?_
  rintro e w' ⟨rfl, rfl⟩
  simp only [rc]
  go_wp2_with fail
  refine (miss_ref asked 0 false told num true m2 m3 2 (rc asked 0 false told num true true m3) _ (by omega) (by simp)).mono ?_
  rintro e w' ⟨rfl, rfl⟩
  simp only [rc]
  go_wp2_with fail
  refine (miss_ref asked 0 false told num true true m3 3 (rc asked 0 false told num true true true) _ (by omega) (by simp)).mono ?_
  rintro e w' ⟨rfl, rfl⟩
  simp only [rc]
  go_wp2_with fail
  refine bodyPost_ret (v := .tuple #[.agg (rc asked 0 false told num true true true), .bool false]) (by simp [results, Try.results29, go_sem, rc]) rfl (lr_of rfl (bl1 (bl1 (bl1 (bl1 (bl1 (bl1 (bl1 (bl1 (Below.refl _ _) _) _) _) _) _) _) _) _))
set_option maxHeartbeats 4000000 in
theorem cap_ref (asked now : Int) (stopped told : Bool) (num : Int) (m1 m2 m3 : Bool) (n c m : Int) (w : World) (hcc : 3 < n ∧ c = 3 ∨ (-1 < n ∧ n ≤ 3) ∧ c = n ∨ n ≤ -1 ∧ c = -1) (hmm : now ≤ c ∧ m = now ∨ c < now ∧ m = c) :
    Calls Try.prog 30 #[.agg (rc asked now stopped told num m1 m2 m3), .int .i64 n] w (Cr w (rc c m (stopped || decide (m = -1)) told num m1 m2 m3)) := by
  simp only [rc]
  rcases hcc with ⟨g, rfl⟩ | ⟨g, rfl⟩ | ⟨g, rfl⟩
  all_goals rcases hmm with ⟨g', rfl⟩ | ⟨g', rfl⟩
  all_goals cases stopped
  all_goals
    go_enter Try.func30, Try.ntmps30
    go_wp2_with fail
  all_goals refine bodyPost_ret (v := _) ?_ rfl (cr_of rfl (bl1 (bl1 (Below.refl _ _) _) _))
  all_goals simp [results, Try.results30, go_sem]
  all_goals rw [Bool.eq_iff_iff]; simp
end Go.Proofs.Ytnodnngakopooaa
