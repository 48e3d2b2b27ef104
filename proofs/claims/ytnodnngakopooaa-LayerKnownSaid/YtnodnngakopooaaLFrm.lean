/- The reference's frame by a contract. Conditions: numbers of their kinds. -/
import Derived.Test.YtnodnngakopooaaKRef
namespace Go.Proofs.Ytnodnngakopooaa
open Go.RowKit

/-- What is left behind a frame of the reference: the answer. -/
def Fr (w : World) (R : Array Value) (v : Int) (e : Ending) (w' : World) : Prop := e = .returned (.tuple #[.agg R, .int .i64 v]) ∧ Below w.heap.size w w'
theorem fr_of {w w' : World} {R : Array Value} {v : Int} {e : Ending} (he : e = .returned (.tuple #[.agg R, .int .i64 v])) (h : Below w.heap.size w w') : Fr w R v e w' := ⟨he, h⟩
theorem al1 {a w : World} (h : Below a.heap.size a w) (o : Obj) : Below a.heap.size a (w.alloc o) := h.alloc h.size o
set_option maxHeartbeats 1000000 in
theorem frame0 (asked : Int) (now : Int) (stopped : Bool) (told : Bool) (num : Int) (m1 : Bool) (m2 : Bool) (m3 : Bool) (tid : Int) (sync : Bool) (drop : Bool) (has : Bool) (tl0 : Int) (w : World) (hx : (⟨true, tid, sync, drop, has, tl0⟩ : Fa).ok) (hly : (⟨true, tid, sync, drop, has, tl0⟩ : Fa).ly = 0) (ha : asked < 0) :
    Calls Try.prog 31 #[.agg (rc asked now stopped told num m1 m2 m3), .agg (xc true tid sync drop has tl0)] w (Fr w (rc asked now stopped told num m1 m2 m3) 1) := by
  have HT := fun W => tid_ref ⟨true, tid, sync, drop, has, tl0⟩ W hx
  rw [hly] at HT
  simp only [Fa.cells] at HT
  simp only [rc, xc]
  have HT' := Lib.hid HT
  clear HT
  clear hx hly
  go_enter Try.func31, Try.ntmps31
  go_wp2_with fail
  refine (HT'.out _).mono ?_
  rintro e w' ⟨rfl, rfl⟩
  clear HT'
  go_wp2_with fail
  refine bodyPost_ret (v := .tuple #[.agg (rc asked now stopped told num m1 m2 m3), .int .i64 1]) (by simp [results, Try.results31, go_sem, rc]) rfl (fr_of rfl (al1 (al1 (al1 (al1 (Below.refl _ _) _) _) _) _))
set_option maxHeartbeats 1000000 in
theorem frame1 (asked : Int) (now : Int) (stopped : Bool) (told : Bool) (num : Int) (m1 : Bool) (m2 : Bool) (m3 : Bool) (tid : Int) (sync : Bool) (drop : Bool) (has : Bool) (tl0 : Int) (w : World) (hx : (⟨true, tid, sync, drop, has, tl0⟩ : Fa).ok) (hly : (⟨true, tid, sync, drop, has, tl0⟩ : Fa).ly = 0) (ha : ¬ asked < 0) :
    Calls Try.prog 31 #[.agg (rc asked now stopped told num m1 m2 m3), .agg (xc true tid sync drop has tl0)] w (Fr w (rc asked asked false has tl0 false false false) 0) := by
  have HT := fun W => tid_ref ⟨true, tid, sync, drop, has, tl0⟩ W hx
  rw [hly] at HT
  simp only [Fa.cells] at HT
  simp only [rc, xc]
  have HT' := Lib.hid HT
  clear HT
  clear hx hly
  go_enter Try.func31, Try.ntmps31
  go_wp2_with fail
  refine (HT'.out _).mono ?_
  rintro e w' ⟨rfl, rfl⟩
  clear HT'
  go_wp2_with fail
  refine (based_ref asked asked stopped told num m1 m2 m3 true tid sync drop has tl0 _).mono ?_
  rintro e w' ⟨rfl, rfl⟩
  simp only [rc, xc]
  go_wp2_with fail
  refine bodyPost_ret (v := .tuple #[.agg (rc asked asked false has tl0 false false false), .int .i64 0]) (by simp [results, Try.results31, go_sem, rc]) rfl (fr_of rfl (al1 (al1 (al1 (al1 (al1 (al1 (al1 (Below.refl _ _) _) _) _) _) _) _) _))
set_option maxHeartbeats 1000000 in
theorem frame2 (asked : Int) (now : Int) (told : Bool) (num : Int) (m1 : Bool) (m2 : Bool) (m3 : Bool) (tid : Int) (sync : Bool) (drop : Bool) (has : Bool) (tl0 : Int) (l : Int) (w : World) (hx : (⟨false, tid, sync, drop, has, tl0⟩ : Fa).ok) (hly : (⟨false, tid, sync, drop, has, tl0⟩ : Fa).ly = l)  :
    Calls Try.prog 31 #[.agg (rc asked now true told num m1 m2 m3), .agg (xc false tid sync drop has tl0)] w (Fr w (rc asked now true told num m1 m2 m3) 1) := by
  have HT := fun W => tid_ref ⟨false, tid, sync, drop, has, tl0⟩ W hx
  rw [hly] at HT
  simp only [Fa.cells] at HT
  simp only [rc, xc]
  have HT' := Lib.hid HT
  clear HT
  clear hx hly
  go_enter Try.func31, Try.ntmps31
  go_wp2_with fail
  refine (HT'.out _).mono ?_
  rintro e w' ⟨rfl, rfl⟩
  clear HT'
  go_wp2_with fail
  refine bodyPost_ret (v := .tuple #[.agg (rc asked now true told num m1 m2 m3), .int .i64 1]) (by simp [results, Try.results31, go_sem, rc]) rfl (fr_of rfl (al1 (al1 (al1 (al1 (Below.refl _ _) _) _) _) _))
set_option maxHeartbeats 1000000 in
theorem frame3 (asked : Int) (now : Int) (num : Int) (m1 : Bool) (m2 : Bool) (m3 : Bool) (tid : Int) (sync : Bool) (drop : Bool) (tl0 : Int) (w : World) (hx : (⟨false, tid, sync, drop, true, tl0⟩ : Fa).ok) (hly : (⟨false, tid, sync, drop, true, tl0⟩ : Fa).ly = 0) (_n0 : 0 ≤ num) (_n1 : num ≤ 255) (hne : ¬ tl0 = (num + 1) % 256) :
    Calls Try.prog 31 #[.agg (rc asked now false true num m1 m2 m3), .agg (xc false tid sync drop true tl0)] w (Fr w (rc asked now true true num m1 m2 m3) 2) := by
  have HT := fun W => tid_ref ⟨false, tid, sync, drop, true, tl0⟩ W hx
  rw [hly] at HT
  simp only [Fa.cells] at HT
  simp only [rc, xc]
  have HT' := Lib.hid HT
  clear HT
  clear hx hly
  go_enter Try.func31, Try.ntmps31
  go_wp2_with fail
  refine (HT'.out _).mono ?_
  rintro e w' ⟨rfl, rfl⟩
  clear HT'
  go_wp2_with fail
  refine bodyPost_ret (v := .tuple #[.agg (rc asked now true true num m1 m2 m3), .int .i64 2]) (by simp [results, Try.results31, go_sem, rc]) rfl (fr_of rfl (al1 (al1 (al1 (al1 (Below.refl _ _) _) _) _) _))
set_option maxHeartbeats 1000000 in
theorem frame4a (asked : Int) (now : Int) (num : Int) (m1 : Bool) (m2 : Bool) (m3 : Bool) (tid : Int) (sync : Bool) (drop : Bool) (tl0 : Int) (w : World) (hx : (⟨false, tid, sync, drop, true, tl0⟩ : Fa).ok) (hly : (⟨false, tid, sync, drop, true, tl0⟩ : Fa).ly = 0)  :
    Calls Try.prog 31 #[.agg (rc asked now false false num m1 m2 m3), .agg (xc false tid sync drop true tl0)] w (Fr w (rc asked now false true tl0 false false false) 0) := by
  have HT := fun W => tid_ref ⟨false, tid, sync, drop, true, tl0⟩ W hx
  rw [hly] at HT
  simp only [Fa.cells] at HT
  simp only [rc, xc]
  have HT' := Lib.hid HT
  clear HT
  clear hx hly
  go_enter Try.func31, Try.ntmps31
  go_wp2_with fail
  refine (HT'.out _).mono ?_
  rintro e w' ⟨rfl, rfl⟩
  clear HT'
  go_wp2_with fail
  refine (based_ref asked now false false num m1 m2 m3 false tid sync drop true tl0 _).mono ?_
  rintro e w' ⟨rfl, rfl⟩
  simp only [rc, xc]
  go_wp2_with fail
  refine bodyPost_ret (v := .tuple #[.agg (rc asked now false true tl0 false false false), .int .i64 0]) (by simp [results, Try.results31, go_sem, rc]) rfl (fr_of rfl (al1 (al1 (al1 (al1 (al1 (al1 (al1 (Below.refl _ _) _) _) _) _) _) _) _))
set_option maxHeartbeats 1000000 in
theorem frame4b (asked : Int) (now : Int) (told : Bool) (num : Int) (m1 : Bool) (m2 : Bool) (m3 : Bool) (tid : Int) (sync : Bool) (drop : Bool) (tl0 : Int) (w : World) (hx : (⟨false, tid, sync, drop, false, tl0⟩ : Fa).ok) (hly : (⟨false, tid, sync, drop, false, tl0⟩ : Fa).ly = 0)  :
    Calls Try.prog 31 #[.agg (rc asked now false told num m1 m2 m3), .agg (xc false tid sync drop false tl0)] w (Fr w (rc asked now false false tl0 false false false) 0) := by
  have HT := fun W => tid_ref ⟨false, tid, sync, drop, false, tl0⟩ W hx
  rw [hly] at HT
  simp only [Fa.cells] at HT
  simp only [rc, xc]
  have HT' := Lib.hid HT
  clear HT
  clear hx hly
  go_enter Try.func31, Try.ntmps31
  go_wp2_with fail
  refine (HT'.out _).mono ?_
  rintro e w' ⟨rfl, rfl⟩
  clear HT'
  go_wp2_with fail
  refine (based_ref asked now false told num m1 m2 m3 false tid sync drop false tl0 _).mono ?_
  rintro e w' ⟨rfl, rfl⟩
  simp only [rc, xc]
  go_wp2_with fail
  refine bodyPost_ret (v := .tuple #[.agg (rc asked now false false tl0 false false false), .int .i64 0]) (by simp [results, Try.results31, go_sem, rc]) rfl (fr_of rfl (al1 (al1 (al1 (al1 (al1 (al1 (al1 (Below.refl _ _) _) _) _) _) _) _) _))
set_option maxHeartbeats 1000000 in
theorem frame4c (asked : Int) (now : Int) (num : Int) (m1 : Bool) (m2 : Bool) (m3 : Bool) (tid : Int) (sync : Bool) (drop : Bool) (w : World) (hx : (⟨false, tid, sync, drop, true, ((num + 1) % 256)⟩ : Fa).ok) (hly : (⟨false, tid, sync, drop, true, ((num + 1) % 256)⟩ : Fa).ly = 0) (_n0 : 0 ≤ num) (_n1 : num ≤ 255) :
    Calls Try.prog 31 #[.agg (rc asked now false true num m1 m2 m3), .agg (xc false tid sync drop true ((num + 1) % 256))] w (Fr w (rc asked now false true ((num + 1) % 256) false false false) 0) := by
  have HT := fun W => tid_ref ⟨false, tid, sync, drop, true, ((num + 1) % 256)⟩ W hx
  rw [hly] at HT
  simp only [Fa.cells] at HT
  simp only [rc, xc]
  have HT' := Lib.hid HT
  clear HT
  clear hx hly
  go_enter Try.func31, Try.ntmps31
  go_wp2_with fail
  refine (HT'.out _).mono ?_
  rintro e w' ⟨rfl, rfl⟩
  clear HT'
  go_wp2_with fail
  refine (based_ref asked now false true num m1 m2 m3 false tid sync drop true ((num + 1) % 256) _).mono ?_
  rintro e w' ⟨rfl, rfl⟩
  simp only [rc, xc]
  go_wp2_with fail
  refine bodyPost_ret (v := .tuple #[.agg (rc asked now false true ((num + 1) % 256) false false false), .int .i64 0]) (by simp [results, Try.results31, go_sem, rc]) rfl (fr_of rfl (al1 (al1 (al1 (al1 (al1 (al1 (al1 (Below.refl _ _) _) _) _) _) _) _) _))
set_option maxHeartbeats 1000000 in
theorem frame5 (asked : Int) (now : Int) (num : Int) (m1 : Bool) (m2 : Bool) (m3 : Bool) (tid : Int) (sync : Bool) (drop : Bool) (tl0 : Int) (l : Int) (w : World) (hx : (⟨false, tid, sync, drop, true, tl0⟩ : Fa).ok) (hly : (⟨false, tid, sync, drop, true, tl0⟩ : Fa).ly = l) (l1 : 1 ≤ l) (l3 : l ≤ 3) (hne : ¬ tl0 = num) :
    Calls Try.prog 31 #[.agg (rc asked now false true num m1 m2 m3), .agg (xc false tid sync drop true tl0)] w (Fr w (rc asked now true true num m1 m2 m3) 2) := by
  have HT := fun W => tid_ref ⟨false, tid, sync, drop, true, tl0⟩ W hx
  rw [hly] at HT
  simp only [Fa.cells] at HT
  simp only [rc, xc]
  have HT' := Lib.hid HT
  clear HT
  clear hx hly
  go_enter Try.func31, Try.ntmps31
  go_wp2_with fail
  refine (HT'.out _).mono ?_
  rintro e w' ⟨rfl, rfl⟩
  clear HT'
  go_wp2_with fail
  refine bodyPost_ret (v := .tuple #[.agg (rc asked now true true num m1 m2 m3), .int .i64 2]) (by simp [results, Try.results31, go_sem, rc]) rfl (fr_of rfl (al1 (al1 (al1 (al1 (Below.refl _ _) _) _) _) _))
set_option maxHeartbeats 1000000 in
theorem frame6a (asked : Int) (now : Int) (num : Int) (m1 : Bool) (m2 : Bool) (m3 : Bool) (tid : Int) (sync : Bool) (drop : Bool) (tl0 : Int) (l : Int) (w : World) (hx : (⟨false, tid, sync, drop, true, tl0⟩ : Fa).ok) (hly : (⟨false, tid, sync, drop, true, tl0⟩ : Fa).ly = l) (_l1 : 1 ≤ l) (_l3 : l ≤ 3) (hn : l ≤ now) :
    Calls Try.prog 31 #[.agg (rc asked now false false num m1 m2 m3), .agg (xc false tid sync drop true tl0)] w (Fr w (rc asked now false false num m1 m2 m3) 0) := by
  have HT := fun W => tid_ref ⟨false, tid, sync, drop, true, tl0⟩ W hx
  rw [hly] at HT
  simp only [Fa.cells] at HT
  simp only [rc, xc]
  have HT' := Lib.hid HT
  clear HT
  clear hx hly
  go_enter Try.func31, Try.ntmps31
  go_wp2_with fail
  refine (HT'.out _).mono ?_
  rintro e w' ⟨rfl, rfl⟩
  clear HT'
  go_wp2_with fail
  refine bodyPost_ret (v := .tuple #[.agg (rc asked now false false num m1 m2 m3), .int .i64 0]) (by simp [results, Try.results31, go_sem, rc]) rfl (fr_of rfl (al1 (al1 (al1 (al1 (Below.refl _ _) _) _) _) _))
set_option maxHeartbeats 1000000 in
theorem frame6b (asked : Int) (now : Int) (told : Bool) (num : Int) (m1 : Bool) (m2 : Bool) (m3 : Bool) (tid : Int) (sync : Bool) (drop : Bool) (tl0 : Int) (l : Int) (w : World) (hx : (⟨false, tid, sync, drop, false, tl0⟩ : Fa).ok) (hly : (⟨false, tid, sync, drop, false, tl0⟩ : Fa).ly = l) (_l1 : 1 ≤ l) (_l3 : l ≤ 3) (hn : l ≤ now) :
    Calls Try.prog 31 #[.agg (rc asked now false told num m1 m2 m3), .agg (xc false tid sync drop false tl0)] w (Fr w (rc asked now false told num m1 m2 m3) 0) := by
  have HT := fun W => tid_ref ⟨false, tid, sync, drop, false, tl0⟩ W hx
  rw [hly] at HT
  simp only [Fa.cells] at HT
  simp only [rc, xc]
  have HT' := Lib.hid HT
  clear HT
  clear hx hly
  go_enter Try.func31, Try.ntmps31
  go_wp2_with fail
  refine (HT'.out _).mono ?_
  rintro e w' ⟨rfl, rfl⟩
  clear HT'
  go_wp2_with fail
  refine bodyPost_ret (v := .tuple #[.agg (rc asked now false told num m1 m2 m3), .int .i64 0]) (by simp [results, Try.results31, go_sem, rc]) rfl (fr_of rfl (al1 (al1 (al1 (al1 (Below.refl _ _) _) _) _) _))
set_option maxHeartbeats 1000000 in
theorem frame6c (asked : Int) (now : Int) (num : Int) (m1 : Bool) (m2 : Bool) (m3 : Bool) (tid : Int) (sync : Bool) (drop : Bool) (l : Int) (w : World) (hx : (⟨false, tid, sync, drop, true, num⟩ : Fa).ok) (hly : (⟨false, tid, sync, drop, true, num⟩ : Fa).ly = l) (_l1 : 1 ≤ l) (_l3 : l ≤ 3) (hn : l ≤ now) :
    Calls Try.prog 31 #[.agg (rc asked now false true num m1 m2 m3), .agg (xc false tid sync drop true num)] w (Fr w (rc asked now false true num m1 m2 m3) 0) := by
  have HT := fun W => tid_ref ⟨false, tid, sync, drop, true, num⟩ W hx
  rw [hly] at HT
  simp only [Fa.cells] at HT
  simp only [rc, xc]
  have HT' := Lib.hid HT
  clear HT
  clear hx hly
  go_enter Try.func31, Try.ntmps31
  go_wp2_with fail
  refine (HT'.out _).mono ?_
  rintro e w' ⟨rfl, rfl⟩
  clear HT'
  go_wp2_with fail
  refine bodyPost_ret (v := .tuple #[.agg (rc asked now false true num m1 m2 m3), .int .i64 0]) (by simp [results, Try.results31, go_sem, rc]) rfl (fr_of rfl (al1 (al1 (al1 (al1 (Below.refl _ _) _) _) _) _))
set_option maxHeartbeats 1000000 in
theorem frame7a (asked : Int) (now : Int) (num : Int) (m1 : Bool) (m2 : Bool) (m3 : Bool) (tid : Int) (drop : Bool) (tl0 : Int) (l : Int) (w : World) (hx : (⟨false, tid, true, drop, true, tl0⟩ : Fa).ok) (hly : (⟨false, tid, true, drop, true, tl0⟩ : Fa).ly = l) (_l1 : 1 ≤ l) (_l3 : l ≤ 3) (hn : ¬ l ≤ now) (ha : l ≤ asked) (hm : missedB now m1 m2 m3 l = false) :
    Calls Try.prog 31 #[.agg (rc asked now false false num m1 m2 m3), .agg (xc false tid true drop true tl0)] w (Fr w (rc asked l false false num m1 m2 m3) 0) := by
  have HT := fun W => tid_ref ⟨false, tid, true, drop, true, tl0⟩ W hx
  rw [hly] at HT
  have HM := Lib.hid hm
  clear hm
  simp only [Fa.cells] at HT
  simp only [rc, xc]
  have HT' := Lib.hid HT
  clear HT
  clear hx hly
  go_enter Try.func31, Try.ntmps31
  go_wp2_with fail
  refine (HT'.out _).mono ?_
  rintro e w' ⟨rfl, rfl⟩
  clear HT'
  go_wp2_with fail
  refine (missed_ref asked now false false num m1 m2 m3 l false _ HM.out).mono ?_
  rintro e w' ⟨rfl, rfl⟩
  simp only [rc]
  go_wp2_with fail
  refine bodyPost_ret (v := .tuple #[.agg (rc asked l false false num m1 m2 m3), .int .i64 0]) (by simp [results, Try.results31, go_sem, rc]) rfl (fr_of rfl (al1 (al1 (al1 (al1 (al1 (Below.refl _ _) _) _) _) _) _))
set_option maxHeartbeats 1000000 in
theorem frame7b (asked : Int) (now : Int) (told : Bool) (num : Int) (m1 : Bool) (m2 : Bool) (m3 : Bool) (tid : Int) (drop : Bool) (tl0 : Int) (l : Int) (w : World) (hx : (⟨false, tid, true, drop, false, tl0⟩ : Fa).ok) (hly : (⟨false, tid, true, drop, false, tl0⟩ : Fa).ly = l) (_l1 : 1 ≤ l) (_l3 : l ≤ 3) (hn : ¬ l ≤ now) (ha : l ≤ asked) (hm : missedB now m1 m2 m3 l = false) :
    Calls Try.prog 31 #[.agg (rc asked now false told num m1 m2 m3), .agg (xc false tid true drop false tl0)] w (Fr w (rc asked l false told num m1 m2 m3) 0) := by
  have HT := fun W => tid_ref ⟨false, tid, true, drop, false, tl0⟩ W hx
  rw [hly] at HT
  have HM := Lib.hid hm
  clear hm
  simp only [Fa.cells] at HT
  simp only [rc, xc]
  have HT' := Lib.hid HT
  clear HT
  clear hx hly
  go_enter Try.func31, Try.ntmps31
  go_wp2_with fail
  refine (HT'.out _).mono ?_
  rintro e w' ⟨rfl, rfl⟩
  clear HT'
  go_wp2_with fail
  refine (missed_ref asked now false told num m1 m2 m3 l false _ HM.out).mono ?_
  rintro e w' ⟨rfl, rfl⟩
  simp only [rc]
  go_wp2_with fail
  refine bodyPost_ret (v := .tuple #[.agg (rc asked l false told num m1 m2 m3), .int .i64 0]) (by simp [results, Try.results31, go_sem, rc]) rfl (fr_of rfl (al1 (al1 (al1 (al1 (al1 (Below.refl _ _) _) _) _) _) _))
set_option maxHeartbeats 1000000 in
theorem frame7c (asked : Int) (now : Int) (num : Int) (m1 : Bool) (m2 : Bool) (m3 : Bool) (tid : Int) (drop : Bool) (l : Int) (w : World) (hx : (⟨false, tid, true, drop, true, num⟩ : Fa).ok) (hly : (⟨false, tid, true, drop, true, num⟩ : Fa).ly = l) (_l1 : 1 ≤ l) (_l3 : l ≤ 3) (hn : ¬ l ≤ now) (ha : l ≤ asked) (hm : missedB now m1 m2 m3 l = false) :
    Calls Try.prog 31 #[.agg (rc asked now false true num m1 m2 m3), .agg (xc false tid true drop true num)] w (Fr w (rc asked l false true num m1 m2 m3) 0) := by
  have HT := fun W => tid_ref ⟨false, tid, true, drop, true, num⟩ W hx
  rw [hly] at HT
  have HM := Lib.hid hm
  clear hm
  simp only [Fa.cells] at HT
  simp only [rc, xc]
  have HT' := Lib.hid HT
  clear HT
  clear hx hly
  go_enter Try.func31, Try.ntmps31
  go_wp2_with fail
  refine (HT'.out _).mono ?_
  rintro e w' ⟨rfl, rfl⟩
  clear HT'
  go_wp2_with fail
  refine (missed_ref asked now false true num m1 m2 m3 l false _ HM.out).mono ?_
  rintro e w' ⟨rfl, rfl⟩
  simp only [rc]
  go_wp2_with fail
  refine bodyPost_ret (v := .tuple #[.agg (rc asked l false true num m1 m2 m3), .int .i64 0]) (by simp [results, Try.results31, go_sem, rc]) rfl (fr_of rfl (al1 (al1 (al1 (al1 (al1 (Below.refl _ _) _) _) _) _) _))
set_option maxHeartbeats 1000000 in
theorem frame8axd (asked : Int) (now : Int) (num : Int) (m1 : Bool) (m2 : Bool) (m3 : Bool) (tid : Int) (tl0 : Int) (l : Int) (w : World) (hx : (⟨false, tid, false, true, true, tl0⟩ : Fa).ok) (hly : (⟨false, tid, false, true, true, tl0⟩ : Fa).ly = l) (_l1 : 1 ≤ l) (_l3 : l ≤ 3) (hn : ¬ l ≤ now) :
    Calls Try.prog 31 #[.agg (rc asked now false false num m1 m2 m3), .agg (xc false tid false true true tl0)] w (Fr w (rc asked now false false num m1 m2 m3) 1) := by
  have HT := fun W => tid_ref ⟨false, tid, false, true, true, tl0⟩ W hx
  rw [hly] at HT
  simp only [Fa.cells] at HT
  simp only [rc, xc]
  have HT' := Lib.hid HT
  clear HT
  clear hx hly
  go_enter Try.func31, Try.ntmps31
  go_wp2_with fail
  refine (HT'.out _).mono ?_
  rintro e w' ⟨rfl, rfl⟩
  clear HT'
  go_wp2_with fail
  refine bodyPost_ret (v := .tuple #[.agg (rc asked now false false num m1 m2 m3), .int .i64 1]) (by simp [results, Try.results31, go_sem, rc]) rfl (fr_of rfl (al1 (al1 (al1 (al1 (Below.refl _ _) _) _) _) _))
set_option maxHeartbeats 1000000 in
theorem frame8axk (asked : Int) (now : Int) (num : Int) (m1 : Bool) (m2 : Bool) (m3 : Bool) (tid : Int) (tl0 : Int) (l : Int) (n1 n2 n3 : Bool) (w : World) (hx : (⟨false, tid, false, false, true, tl0⟩ : Fa).ok) (hly : (⟨false, tid, false, false, true, tl0⟩ : Fa).ly = l) (_l1 : 1 ≤ l) (_l3 : l ≤ 3) (hn : ¬ l ≤ now) (hR : rc asked now false false num n1 n2 n3 = rc asked now false false num (m1 || decide (l = 1)) (m2 || decide (l = 2)) (m3 || decide (l = 3))) :
    Calls Try.prog 31 #[.agg (rc asked now false false num m1 m2 m3), .agg (xc false tid false false true tl0)] w (Fr w (rc asked now false false num n1 n2 n3) 1) := by
  have HT := fun W => tid_ref ⟨false, tid, false, false, true, tl0⟩ W hx
  rw [hly] at HT
  have HL := Lib.hid (show l = 1 ∨ l = 2 ∨ l = 3 by omega)
  have HR := Lib.hid hR
  clear hR
  simp only [Fa.cells] at HT
  simp only [rc, xc]
  have HT' := Lib.hid HT
  clear HT
  clear hx hly
  go_enter Try.func31, Try.ntmps31
  go_wp2_with fail
  refine (HT'.out _).mono ?_
  rintro e w' ⟨rfl, rfl⟩
  clear HT'
  go_wp2_with fail
  refine (miss_ref asked now false false num m1 m2 m3 l (rc asked now false false num n1 n2 n3) _ HL.out HR.out).mono ?_
  rintro e w' ⟨rfl, rfl⟩
  simp only [rc]
  go_wp2_with fail
  refine bodyPost_ret (v := .tuple #[.agg (rc asked now false false num n1 n2 n3), .int .i64 1]) (by simp [results, Try.results31, go_sem, rc]) rfl (fr_of rfl (al1 (al1 (al1 (al1 (al1 (al1 (Below.refl _ _) _) _) _) _) _) _))
set_option maxHeartbeats 1000000 in
theorem frame8ayd (asked : Int) (now : Int) (num : Int) (m1 : Bool) (m2 : Bool) (m3 : Bool) (tid : Int) (tl0 : Int) (l : Int) (w : World) (hx : (⟨false, tid, true, true, true, tl0⟩ : Fa).ok) (hly : (⟨false, tid, true, true, true, tl0⟩ : Fa).ly = l) (_l1 : 1 ≤ l) (_l3 : l ≤ 3) (hn : ¬ l ≤ now) (ha : ¬ l ≤ asked) :
    Calls Try.prog 31 #[.agg (rc asked now false false num m1 m2 m3), .agg (xc false tid true true true tl0)] w (Fr w (rc asked now false false num m1 m2 m3) 1) := by
  have HT := fun W => tid_ref ⟨false, tid, true, true, true, tl0⟩ W hx
  rw [hly] at HT
  simp only [Fa.cells] at HT
  simp only [rc, xc]
  have HT' := Lib.hid HT
  clear HT
  clear hx hly
  go_enter Try.func31, Try.ntmps31
  go_wp2_with fail
  refine (HT'.out _).mono ?_
  rintro e w' ⟨rfl, rfl⟩
  clear HT'
  go_wp2_with fail
  refine bodyPost_ret (v := .tuple #[.agg (rc asked now false false num m1 m2 m3), .int .i64 1]) (by simp [results, Try.results31, go_sem, rc]) rfl (fr_of rfl (al1 (al1 (al1 (al1 (Below.refl _ _) _) _) _) _))
set_option maxHeartbeats 1000000 in
theorem frame8ayk (asked : Int) (now : Int) (num : Int) (m1 : Bool) (m2 : Bool) (m3 : Bool) (tid : Int) (tl0 : Int) (l : Int) (n1 n2 n3 : Bool) (w : World) (hx : (⟨false, tid, true, false, true, tl0⟩ : Fa).ok) (hly : (⟨false, tid, true, false, true, tl0⟩ : Fa).ly = l) (_l1 : 1 ≤ l) (_l3 : l ≤ 3) (hn : ¬ l ≤ now) (ha : ¬ l ≤ asked) (hR : rc asked now false false num n1 n2 n3 = rc asked now false false num (m1 || decide (l = 1)) (m2 || decide (l = 2)) (m3 || decide (l = 3))) :
    Calls Try.prog 31 #[.agg (rc asked now false false num m1 m2 m3), .agg (xc false tid true false true tl0)] w (Fr w (rc asked now false false num n1 n2 n3) 1) := by
  have HT := fun W => tid_ref ⟨false, tid, true, false, true, tl0⟩ W hx
  rw [hly] at HT
  have HL := Lib.hid (show l = 1 ∨ l = 2 ∨ l = 3 by omega)
  have HR := Lib.hid hR
  clear hR
  simp only [Fa.cells] at HT
  simp only [rc, xc]
  have HT' := Lib.hid HT
  clear HT
  clear hx hly
  go_enter Try.func31, Try.ntmps31
  go_wp2_with fail
  refine (HT'.out _).mono ?_
  rintro e w' ⟨rfl, rfl⟩
  clear HT'
  go_wp2_with fail
  refine (miss_ref asked now false false num m1 m2 m3 l (rc asked now false false num n1 n2 n3) _ HL.out HR.out).mono ?_
  rintro e w' ⟨rfl, rfl⟩
  simp only [rc]
  go_wp2_with fail
  refine bodyPost_ret (v := .tuple #[.agg (rc asked now false false num n1 n2 n3), .int .i64 1]) (by simp [results, Try.results31, go_sem, rc]) rfl (fr_of rfl (al1 (al1 (al1 (al1 (al1 (al1 (Below.refl _ _) _) _) _) _) _) _))
set_option maxHeartbeats 1000000 in
theorem frame8azd (asked : Int) (now : Int) (num : Int) (m1 : Bool) (m2 : Bool) (m3 : Bool) (tid : Int) (tl0 : Int) (l : Int) (w : World) (hx : (⟨false, tid, true, true, true, tl0⟩ : Fa).ok) (hly : (⟨false, tid, true, true, true, tl0⟩ : Fa).ly = l) (_l1 : 1 ≤ l) (_l3 : l ≤ 3) (hn : ¬ l ≤ now) (ha : l ≤ asked) (hm : missedB now m1 m2 m3 l = true) :
    Calls Try.prog 31 #[.agg (rc asked now false false num m1 m2 m3), .agg (xc false tid true true true tl0)] w (Fr w (rc asked now false false num m1 m2 m3) 1) := by
  have HT := fun W => tid_ref ⟨false, tid, true, true, true, tl0⟩ W hx
  rw [hly] at HT
  have HM := Lib.hid hm
  clear hm
  simp only [Fa.cells] at HT
  simp only [rc, xc]
  have HT' := Lib.hid HT
  clear HT
  clear hx hly
  go_enter Try.func31, Try.ntmps31
  go_wp2_with fail
  refine (HT'.out _).mono ?_
  rintro e w' ⟨rfl, rfl⟩
  clear HT'
  go_wp2_with fail
  refine (missed_ref asked now false false num m1 m2 m3 l true _ HM.out).mono ?_
  rintro e w' ⟨rfl, rfl⟩
  simp only [rc]
  go_wp2_with fail
  refine bodyPost_ret (v := .tuple #[.agg (rc asked now false false num m1 m2 m3), .int .i64 1]) (by simp [results, Try.results31, go_sem, rc]) rfl (fr_of rfl (al1 (al1 (al1 (al1 (al1 (Below.refl _ _) _) _) _) _) _))
set_option maxHeartbeats 1000000 in
theorem frame8azk (asked : Int) (now : Int) (num : Int) (m1 : Bool) (m2 : Bool) (m3 : Bool) (tid : Int) (tl0 : Int) (l : Int) (n1 n2 n3 : Bool) (w : World) (hx : (⟨false, tid, true, false, true, tl0⟩ : Fa).ok) (hly : (⟨false, tid, true, false, true, tl0⟩ : Fa).ly = l) (_l1 : 1 ≤ l) (_l3 : l ≤ 3) (hn : ¬ l ≤ now) (ha : l ≤ asked) (hm : missedB now m1 m2 m3 l = true) (hR : rc asked now false false num n1 n2 n3 = rc asked now false false num (m1 || decide (l = 1)) (m2 || decide (l = 2)) (m3 || decide (l = 3))) :
    Calls Try.prog 31 #[.agg (rc asked now false false num m1 m2 m3), .agg (xc false tid true false true tl0)] w (Fr w (rc asked now false false num n1 n2 n3) 1) := by
  have HT := fun W => tid_ref ⟨false, tid, true, false, true, tl0⟩ W hx
  rw [hly] at HT
  have HM := Lib.hid hm
  clear hm
  have HL := Lib.hid (show l = 1 ∨ l = 2 ∨ l = 3 by omega)
  have HR := Lib.hid hR
  clear hR
  simp only [Fa.cells] at HT
  simp only [rc, xc]
  have HT' := Lib.hid HT
  clear HT
  clear hx hly
  go_enter Try.func31, Try.ntmps31
  go_wp2_with fail
  refine (HT'.out _).mono ?_
  rintro e w' ⟨rfl, rfl⟩
  clear HT'
  go_wp2_with fail
  refine (missed_ref asked now false false num m1 m2 m3 l true _ HM.out).mono ?_
  rintro e w' ⟨rfl, rfl⟩
  simp only [rc]
  go_wp2_with fail
  refine (miss_ref asked now false false num m1 m2 m3 l (rc asked now false false num n1 n2 n3) _ HL.out HR.out).mono ?_
  rintro e w' ⟨rfl, rfl⟩
  simp only [rc]
  go_wp2_with fail
  refine bodyPost_ret (v := .tuple #[.agg (rc asked now false false num n1 n2 n3), .int .i64 1]) (by simp [results, Try.results31, go_sem, rc]) rfl (fr_of rfl (al1 (al1 (al1 (al1 (al1 (al1 (al1 (Below.refl _ _) _) _) _) _) _) _) _))
set_option maxHeartbeats 1000000 in
theorem frame8bxd (asked : Int) (now : Int) (told : Bool) (num : Int) (m1 : Bool) (m2 : Bool) (m3 : Bool) (tid : Int) (tl0 : Int) (l : Int) (w : World) (hx : (⟨false, tid, false, true, false, tl0⟩ : Fa).ok) (hly : (⟨false, tid, false, true, false, tl0⟩ : Fa).ly = l) (_l1 : 1 ≤ l) (_l3 : l ≤ 3) (hn : ¬ l ≤ now) :
    Calls Try.prog 31 #[.agg (rc asked now false told num m1 m2 m3), .agg (xc false tid false true false tl0)] w (Fr w (rc asked now false told num m1 m2 m3) 1) := by
  have HT := fun W => tid_ref ⟨false, tid, false, true, false, tl0⟩ W hx
  rw [hly] at HT
  simp only [Fa.cells] at HT
  simp only [rc, xc]
  have HT' := Lib.hid HT
  clear HT
  clear hx hly
  go_enter Try.func31, Try.ntmps31
  go_wp2_with fail
  refine (HT'.out _).mono ?_
  rintro e w' ⟨rfl, rfl⟩
  clear HT'
  go_wp2_with fail
  refine bodyPost_ret (v := .tuple #[.agg (rc asked now false told num m1 m2 m3), .int .i64 1]) (by simp [results, Try.results31, go_sem, rc]) rfl (fr_of rfl (al1 (al1 (al1 (al1 (Below.refl _ _) _) _) _) _))
set_option maxHeartbeats 1000000 in
theorem frame8bxk (asked : Int) (now : Int) (told : Bool) (num : Int) (m1 : Bool) (m2 : Bool) (m3 : Bool) (tid : Int) (tl0 : Int) (l : Int) (n1 n2 n3 : Bool) (w : World) (hx : (⟨false, tid, false, false, false, tl0⟩ : Fa).ok) (hly : (⟨false, tid, false, false, false, tl0⟩ : Fa).ly = l) (_l1 : 1 ≤ l) (_l3 : l ≤ 3) (hn : ¬ l ≤ now) (hR : rc asked now false told num n1 n2 n3 = rc asked now false told num (m1 || decide (l = 1)) (m2 || decide (l = 2)) (m3 || decide (l = 3))) :
    Calls Try.prog 31 #[.agg (rc asked now false told num m1 m2 m3), .agg (xc false tid false false false tl0)] w (Fr w (rc asked now false told num n1 n2 n3) 1) := by
  have HT := fun W => tid_ref ⟨false, tid, false, false, false, tl0⟩ W hx
  rw [hly] at HT
  have HL := Lib.hid (show l = 1 ∨ l = 2 ∨ l = 3 by omega)
  have HR := Lib.hid hR
  clear hR
  simp only [Fa.cells] at HT
  simp only [rc, xc]
  have HT' := Lib.hid HT
  clear HT
  clear hx hly
  go_enter Try.func31, Try.ntmps31
  go_wp2_with fail
  refine (HT'.out _).mono ?_
  rintro e w' ⟨rfl, rfl⟩
  clear HT'
  go_wp2_with fail
  refine (miss_ref asked now false told num m1 m2 m3 l (rc asked now false told num n1 n2 n3) _ HL.out HR.out).mono ?_
  rintro e w' ⟨rfl, rfl⟩
  simp only [rc]
  go_wp2_with fail
  refine bodyPost_ret (v := .tuple #[.agg (rc asked now false told num n1 n2 n3), .int .i64 1]) (by simp [results, Try.results31, go_sem, rc]) rfl (fr_of rfl (al1 (al1 (al1 (al1 (al1 (al1 (Below.refl _ _) _) _) _) _) _) _))
set_option maxHeartbeats 1000000 in
theorem frame8byd (asked : Int) (now : Int) (told : Bool) (num : Int) (m1 : Bool) (m2 : Bool) (m3 : Bool) (tid : Int) (tl0 : Int) (l : Int) (w : World) (hx : (⟨false, tid, true, true, false, tl0⟩ : Fa).ok) (hly : (⟨false, tid, true, true, false, tl0⟩ : Fa).ly = l) (_l1 : 1 ≤ l) (_l3 : l ≤ 3) (hn : ¬ l ≤ now) (ha : ¬ l ≤ asked) :
    Calls Try.prog 31 #[.agg (rc asked now false told num m1 m2 m3), .agg (xc false tid true true false tl0)] w (Fr w (rc asked now false told num m1 m2 m3) 1) := by
  have HT := fun W => tid_ref ⟨false, tid, true, true, false, tl0⟩ W hx
  rw [hly] at HT
  simp only [Fa.cells] at HT
  simp only [rc, xc]
  have HT' := Lib.hid HT
  clear HT
  clear hx hly
  go_enter Try.func31, Try.ntmps31
  go_wp2_with fail
  refine (HT'.out _).mono ?_
  rintro e w' ⟨rfl, rfl⟩
  clear HT'
  go_wp2_with fail
  refine bodyPost_ret (v := .tuple #[.agg (rc asked now false told num m1 m2 m3), .int .i64 1]) (by simp [results, Try.results31, go_sem, rc]) rfl (fr_of rfl (al1 (al1 (al1 (al1 (Below.refl _ _) _) _) _) _))
set_option maxHeartbeats 1000000 in
theorem frame8byk (asked : Int) (now : Int) (told : Bool) (num : Int) (m1 : Bool) (m2 : Bool) (m3 : Bool) (tid : Int) (tl0 : Int) (l : Int) (n1 n2 n3 : Bool) (w : World) (hx : (⟨false, tid, true, false, false, tl0⟩ : Fa).ok) (hly : (⟨false, tid, true, false, false, tl0⟩ : Fa).ly = l) (_l1 : 1 ≤ l) (_l3 : l ≤ 3) (hn : ¬ l ≤ now) (ha : ¬ l ≤ asked) (hR : rc asked now false told num n1 n2 n3 = rc asked now false told num (m1 || decide (l = 1)) (m2 || decide (l = 2)) (m3 || decide (l = 3))) :
    Calls Try.prog 31 #[.agg (rc asked now false told num m1 m2 m3), .agg (xc false tid true false false tl0)] w (Fr w (rc asked now false told num n1 n2 n3) 1) := by
  have HT := fun W => tid_ref ⟨false, tid, true, false, false, tl0⟩ W hx
  rw [hly] at HT
  have HL := Lib.hid (show l = 1 ∨ l = 2 ∨ l = 3 by omega)
  have HR := Lib.hid hR
  clear hR
  simp only [Fa.cells] at HT
  simp only [rc, xc]
  have HT' := Lib.hid HT
  clear HT
  clear hx hly
  go_enter Try.func31, Try.ntmps31
  go_wp2_with fail
  refine (HT'.out _).mono ?_
  rintro e w' ⟨rfl, rfl⟩
  clear HT'
  go_wp2_with fail
  refine (miss_ref asked now false told num m1 m2 m3 l (rc asked now false told num n1 n2 n3) _ HL.out HR.out).mono ?_
  rintro e w' ⟨rfl, rfl⟩
  simp only [rc]
  go_wp2_with fail
  refine bodyPost_ret (v := .tuple #[.agg (rc asked now false told num n1 n2 n3), .int .i64 1]) (by simp [results, Try.results31, go_sem, rc]) rfl (fr_of rfl (al1 (al1 (al1 (al1 (al1 (al1 (Below.refl _ _) _) _) _) _) _) _))
set_option maxHeartbeats 1000000 in
theorem frame8bzd (asked : Int) (now : Int) (told : Bool) (num : Int) (m1 : Bool) (m2 : Bool) (m3 : Bool) (tid : Int) (tl0 : Int) (l : Int) (w : World) (hx : (⟨false, tid, true, true, false, tl0⟩ : Fa).ok) (hly : (⟨false, tid, true, true, false, tl0⟩ : Fa).ly = l) (_l1 : 1 ≤ l) (_l3 : l ≤ 3) (hn : ¬ l ≤ now) (ha : l ≤ asked) (hm : missedB now m1 m2 m3 l = true) :
    Calls Try.prog 31 #[.agg (rc asked now false told num m1 m2 m3), .agg (xc false tid true true false tl0)] w (Fr w (rc asked now false told num m1 m2 m3) 1) := by
  have HT := fun W => tid_ref ⟨false, tid, true, true, false, tl0⟩ W hx
  rw [hly] at HT
  have HM := Lib.hid hm
  clear hm
  simp only [Fa.cells] at HT
  simp only [rc, xc]
  have HT' := Lib.hid HT
  clear HT
  clear hx hly
  go_enter Try.func31, Try.ntmps31
  go_wp2_with fail
  refine (HT'.out _).mono ?_
  rintro e w' ⟨rfl, rfl⟩
  clear HT'
  go_wp2_with fail
  refine (missed_ref asked now false told num m1 m2 m3 l true _ HM.out).mono ?_
  rintro e w' ⟨rfl, rfl⟩
  simp only [rc]
  go_wp2_with fail
  refine bodyPost_ret (v := .tuple #[.agg (rc asked now false told num m1 m2 m3), .int .i64 1]) (by simp [results, Try.results31, go_sem, rc]) rfl (fr_of rfl (al1 (al1 (al1 (al1 (al1 (Below.refl _ _) _) _) _) _) _))
set_option maxHeartbeats 1000000 in
theorem frame8bzk (asked : Int) (now : Int) (told : Bool) (num : Int) (m1 : Bool) (m2 : Bool) (m3 : Bool) (tid : Int) (tl0 : Int) (l : Int) (n1 n2 n3 : Bool) (w : World) (hx : (⟨false, tid, true, false, false, tl0⟩ : Fa).ok) (hly : (⟨false, tid, true, false, false, tl0⟩ : Fa).ly = l) (_l1 : 1 ≤ l) (_l3 : l ≤ 3) (hn : ¬ l ≤ now) (ha : l ≤ asked) (hm : missedB now m1 m2 m3 l = true) (hR : rc asked now false told num n1 n2 n3 = rc asked now false told num (m1 || decide (l = 1)) (m2 || decide (l = 2)) (m3 || decide (l = 3))) :
    Calls Try.prog 31 #[.agg (rc asked now false told num m1 m2 m3), .agg (xc false tid true false false tl0)] w (Fr w (rc asked now false told num n1 n2 n3) 1) := by
  have HT := fun W => tid_ref ⟨false, tid, true, false, false, tl0⟩ W hx
  rw [hly] at HT
  have HM := Lib.hid hm
  clear hm
  have HL := Lib.hid (show l = 1 ∨ l = 2 ∨ l = 3 by omega)
  have HR := Lib.hid hR
  clear hR
  simp only [Fa.cells] at HT
  simp only [rc, xc]
  have HT' := Lib.hid HT
  clear HT
  clear hx hly
  go_enter Try.func31, Try.ntmps31
  go_wp2_with fail
  refine (HT'.out _).mono ?_
  rintro e w' ⟨rfl, rfl⟩
  clear HT'
  go_wp2_with fail
  refine (missed_ref asked now false told num m1 m2 m3 l true _ HM.out).mono ?_
  rintro e w' ⟨rfl, rfl⟩
  simp only [rc]
  go_wp2_with fail
  refine (miss_ref asked now false told num m1 m2 m3 l (rc asked now false told num n1 n2 n3) _ HL.out HR.out).mono ?_
  rintro e w' ⟨rfl, rfl⟩
  simp only [rc]
  go_wp2_with fail
  refine bodyPost_ret (v := .tuple #[.agg (rc asked now false told num n1 n2 n3), .int .i64 1]) (by simp [results, Try.results31, go_sem, rc]) rfl (fr_of rfl (al1 (al1 (al1 (al1 (al1 (al1 (al1 (Below.refl _ _) _) _) _) _) _) _) _))
set_option maxHeartbeats 1000000 in
theorem frame8cxd (asked : Int) (now : Int) (num : Int) (m1 : Bool) (m2 : Bool) (m3 : Bool) (tid : Int) (l : Int) (w : World) (hx : (⟨false, tid, false, true, true, num⟩ : Fa).ok) (hly : (⟨false, tid, false, true, true, num⟩ : Fa).ly = l) (_l1 : 1 ≤ l) (_l3 : l ≤ 3) (hn : ¬ l ≤ now) :
    Calls Try.prog 31 #[.agg (rc asked now false true num m1 m2 m3), .agg (xc false tid false true true num)] w (Fr w (rc asked now false true num m1 m2 m3) 1) := by
  have HT := fun W => tid_ref ⟨false, tid, false, true, true, num⟩ W hx
  rw [hly] at HT
  simp only [Fa.cells] at HT
  simp only [rc, xc]
  have HT' := Lib.hid HT
  clear HT
  clear hx hly
  go_enter Try.func31, Try.ntmps31
  go_wp2_with fail
  refine (HT'.out _).mono ?_
  rintro e w' ⟨rfl, rfl⟩
  clear HT'
  go_wp2_with fail
  refine bodyPost_ret (v := .tuple #[.agg (rc asked now false true num m1 m2 m3), .int .i64 1]) (by simp [results, Try.results31, go_sem, rc]) rfl (fr_of rfl (al1 (al1 (al1 (al1 (Below.refl _ _) _) _) _) _))
set_option maxHeartbeats 1000000 in
theorem frame8cxk (asked : Int) (now : Int) (num : Int) (m1 : Bool) (m2 : Bool) (m3 : Bool) (tid : Int) (l : Int) (n1 n2 n3 : Bool) (w : World) (hx : (⟨false, tid, false, false, true, num⟩ : Fa).ok) (hly : (⟨false, tid, false, false, true, num⟩ : Fa).ly = l) (_l1 : 1 ≤ l) (_l3 : l ≤ 3) (hn : ¬ l ≤ now) (hR : rc asked now false true num n1 n2 n3 = rc asked now false true num (m1 || decide (l = 1)) (m2 || decide (l = 2)) (m3 || decide (l = 3))) :
    Calls Try.prog 31 #[.agg (rc asked now false true num m1 m2 m3), .agg (xc false tid false false true num)] w (Fr w (rc asked now false true num n1 n2 n3) 1) := by
  have HT := fun W => tid_ref ⟨false, tid, false, false, true, num⟩ W hx
  rw [hly] at HT
  have HL := Lib.hid (show l = 1 ∨ l = 2 ∨ l = 3 by omega)
  have HR := Lib.hid hR
  clear hR
  simp only [Fa.cells] at HT
  simp only [rc, xc]
  have HT' := Lib.hid HT
  clear HT
  clear hx hly
  go_enter Try.func31, Try.ntmps31
  go_wp2_with fail
  refine (HT'.out _).mono ?_
  rintro e w' ⟨rfl, rfl⟩
  clear HT'
  go_wp2_with fail
  refine (miss_ref asked now false true num m1 m2 m3 l (rc asked now false true num n1 n2 n3) _ HL.out HR.out).mono ?_
  rintro e w' ⟨rfl, rfl⟩
  simp only [rc]
  go_wp2_with fail
  refine bodyPost_ret (v := .tuple #[.agg (rc asked now false true num n1 n2 n3), .int .i64 1]) (by simp [results, Try.results31, go_sem, rc]) rfl (fr_of rfl (al1 (al1 (al1 (al1 (al1 (al1 (Below.refl _ _) _) _) _) _) _) _))
set_option maxHeartbeats 1000000 in
theorem frame8cyd (asked : Int) (now : Int) (num : Int) (m1 : Bool) (m2 : Bool) (m3 : Bool) (tid : Int) (l : Int) (w : World) (hx : (⟨false, tid, true, true, true, num⟩ : Fa).ok) (hly : (⟨false, tid, true, true, true, num⟩ : Fa).ly = l) (_l1 : 1 ≤ l) (_l3 : l ≤ 3) (hn : ¬ l ≤ now) (ha : ¬ l ≤ asked) :
    Calls Try.prog 31 #[.agg (rc asked now false true num m1 m2 m3), .agg (xc false tid true true true num)] w (Fr w (rc asked now false true num m1 m2 m3) 1) := by
  have HT := fun W => tid_ref ⟨false, tid, true, true, true, num⟩ W hx
  rw [hly] at HT
  simp only [Fa.cells] at HT
  simp only [rc, xc]
  have HT' := Lib.hid HT
  clear HT
  clear hx hly
  go_enter Try.func31, Try.ntmps31
  go_wp2_with fail
  refine (HT'.out _).mono ?_
  rintro e w' ⟨rfl, rfl⟩
  clear HT'
  go_wp2_with fail
  refine bodyPost_ret (v := .tuple #[.agg (rc asked now false true num m1 m2 m3), .int .i64 1]) (by simp [results, Try.results31, go_sem, rc]) rfl (fr_of rfl (al1 (al1 (al1 (al1 (Below.refl _ _) _) _) _) _))
set_option maxHeartbeats 1000000 in
theorem frame8cyk (asked : Int) (now : Int) (num : Int) (m1 : Bool) (m2 : Bool) (m3 : Bool) (tid : Int) (l : Int) (n1 n2 n3 : Bool) (w : World) (hx : (⟨false, tid, true, false, true, num⟩ : Fa).ok) (hly : (⟨false, tid, true, false, true, num⟩ : Fa).ly = l) (_l1 : 1 ≤ l) (_l3 : l ≤ 3) (hn : ¬ l ≤ now) (ha : ¬ l ≤ asked) (hR : rc asked now false true num n1 n2 n3 = rc asked now false true num (m1 || decide (l = 1)) (m2 || decide (l = 2)) (m3 || decide (l = 3))) :
    Calls Try.prog 31 #[.agg (rc asked now false true num m1 m2 m3), .agg (xc false tid true false true num)] w (Fr w (rc asked now false true num n1 n2 n3) 1) := by
  have HT := fun W => tid_ref ⟨false, tid, true, false, true, num⟩ W hx
  rw [hly] at HT
  have HL := Lib.hid (show l = 1 ∨ l = 2 ∨ l = 3 by omega)
  have HR := Lib.hid hR
  clear hR
  simp only [Fa.cells] at HT
  simp only [rc, xc]
  have HT' := Lib.hid HT
  clear HT
  clear hx hly
  go_enter Try.func31, Try.ntmps31
  go_wp2_with fail
  refine (HT'.out _).mono ?_
  rintro e w' ⟨rfl, rfl⟩
  clear HT'
  go_wp2_with fail
  refine (miss_ref asked now false true num m1 m2 m3 l (rc asked now false true num n1 n2 n3) _ HL.out HR.out).mono ?_
  rintro e w' ⟨rfl, rfl⟩
  simp only [rc]
  go_wp2_with fail
  refine bodyPost_ret (v := .tuple #[.agg (rc asked now false true num n1 n2 n3), .int .i64 1]) (by simp [results, Try.results31, go_sem, rc]) rfl (fr_of rfl (al1 (al1 (al1 (al1 (al1 (al1 (Below.refl _ _) _) _) _) _) _) _))
set_option maxHeartbeats 1000000 in
theorem frame8czd (asked : Int) (now : Int) (num : Int) (m1 : Bool) (m2 : Bool) (m3 : Bool) (tid : Int) (l : Int) (w : World) (hx : (⟨false, tid, true, true, true, num⟩ : Fa).ok) (hly : (⟨false, tid, true, true, true, num⟩ : Fa).ly = l) (_l1 : 1 ≤ l) (_l3 : l ≤ 3) (hn : ¬ l ≤ now) (ha : l ≤ asked) (hm : missedB now m1 m2 m3 l = true) :
    Calls Try.prog 31 #[.agg (rc asked now false true num m1 m2 m3), .agg (xc false tid true true true num)] w (Fr w (rc asked now false true num m1 m2 m3) 1) := by
  have HT := fun W => tid_ref ⟨false, tid, true, true, true, num⟩ W hx
  rw [hly] at HT
  have HM := Lib.hid hm
  clear hm
  simp only [Fa.cells] at HT
  simp only [rc, xc]
  have HT' := Lib.hid HT
  clear HT
  clear hx hly
  go_enter Try.func31, Try.ntmps31
  go_wp2_with fail
  refine (HT'.out _).mono ?_
  rintro e w' ⟨rfl, rfl⟩
  clear HT'
  go_wp2_with fail
  refine (missed_ref asked now false true num m1 m2 m3 l true _ HM.out).mono ?_
  rintro e w' ⟨rfl, rfl⟩
  simp only [rc]
  go_wp2_with fail
  refine bodyPost_ret (v := .tuple #[.agg (rc asked now false true num m1 m2 m3), .int .i64 1]) (by simp [results, Try.results31, go_sem, rc]) rfl (fr_of rfl (al1 (al1 (al1 (al1 (al1 (Below.refl _ _) _) _) _) _) _))
set_option maxHeartbeats 1000000 in
theorem frame8czk (asked : Int) (now : Int) (num : Int) (m1 : Bool) (m2 : Bool) (m3 : Bool) (tid : Int) (l : Int) (n1 n2 n3 : Bool) (w : World) (hx : (⟨false, tid, true, false, true, num⟩ : Fa).ok) (hly : (⟨false, tid, true, false, true, num⟩ : Fa).ly = l) (_l1 : 1 ≤ l) (_l3 : l ≤ 3) (hn : ¬ l ≤ now) (ha : l ≤ asked) (hm : missedB now m1 m2 m3 l = true) (hR : rc asked now false true num n1 n2 n3 = rc asked now false true num (m1 || decide (l = 1)) (m2 || decide (l = 2)) (m3 || decide (l = 3))) :
    Calls Try.prog 31 #[.agg (rc asked now false true num m1 m2 m3), .agg (xc false tid true false true num)] w (Fr w (rc asked now false true num n1 n2 n3) 1) := by
  have HT := fun W => tid_ref ⟨false, tid, true, false, true, num⟩ W hx
  rw [hly] at HT
  have HM := Lib.hid hm
  clear hm
  have HL := Lib.hid (show l = 1 ∨ l = 2 ∨ l = 3 by omega)
  have HR := Lib.hid hR
  clear hR
  simp only [Fa.cells] at HT
  simp only [rc, xc]
  have HT' := Lib.hid HT
  clear HT
  clear hx hly
  go_enter Try.func31, Try.ntmps31
  go_wp2_with fail
  refine (HT'.out _).mono ?_
  rintro e w' ⟨rfl, rfl⟩
  clear HT'
  go_wp2_with fail
  refine (missed_ref asked now false true num m1 m2 m3 l true _ HM.out).mono ?_
  rintro e w' ⟨rfl, rfl⟩
  simp only [rc]
  go_wp2_with fail
  refine (miss_ref asked now false true num m1 m2 m3 l (rc asked now false true num n1 n2 n3) _ HL.out HR.out).mono ?_
  rintro e w' ⟨rfl, rfl⟩
  simp only [rc]
  go_wp2_with fail
  refine bodyPost_ret (v := .tuple #[.agg (rc asked now false true num n1 n2 n3), .int .i64 1]) (by simp [results, Try.results31, go_sem, rc]) rfl (fr_of rfl (al1 (al1 (al1 (al1 (al1 (al1 (al1 (Below.refl _ _) _) _) _) _) _) _) _))
end Go.Proofs.Ytnodnngakopooaa
