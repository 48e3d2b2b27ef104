/- The chapter's examples, which every law ends in: they come out true, and leave what was there alone. Conditions: none. -/
import Derived.Test.YtelfkghcgigbjaaBMap
namespace Go.Proofs.Ytelfkghcgigbjaa
open Go.RowKit

theorem far_lit (w : World) : Calls Try.prog 13 #[.int .i64 4, .int .u64 2, .int .u64 14] w fun e w' => e = .returned (.int .u64 4) ∧ w = w' := by
  have h := far_yes 4 2 14 w (by omega) (by omega)
  rwa [show fr 4 2 14 = 4 by decide +kernel] at h
theorem ahead_lit1 (w : World) : Calls Try.prog 15 #[.int .i64 4, .int .u64 2, .int .u64 14] w fun e w' => e = .returned (.bool true) ∧ w = w' := by
  have h := ahead_yes 4 2 14 w (by omega) (by omega)
  rwa [show ah 4 2 14 = true by decide +kernel] at h
theorem ahead_lit2 (w : World) : Calls Try.prog 15 #[.int .i64 4, .int .u64 14, .int .u64 2] w fun e w' => e = .returned (.bool false) ∧ w = w' := by
  have h := ahead_yes 4 14 2 w (by omega) (by omega)
  rwa [show ah 4 14 2 = false by decide +kernel] at h
theorem ahead_lit3 (w : World) : Calls Try.prog 15 #[.int .i64 4, .int .u64 9, .int .u64 1] w fun e w' => e = .returned (.bool false) ∧ w = w' := by
  have h := ahead_yes 4 9 1 w (by omega) (by omega)
  rwa [show ah 4 9 1 = false by decide +kernel] at h
theorem next_lit {r f l q : Int} {g : Bool} (h0 : 1 ≤ r) (h1 : r ≤ 63) (f0 : 0 ≤ f) (f1 : f ≤ 18446744073709551615) (hq : nx r f l g = q) (b : Nat) (s : Int) (w : World) (hx : Mp w b r s f l g) :
    Calls Try.prog 16 #[.pointer (some ⟨b, 0, none⟩)] w fun e w' => e = .returned (.int .u64 q) ∧ Mp w' b r s f q true ∧ w.grownBy w' (some b) := by
  subst hq; exact next_any b r s f l g w h0 h1 f0 f1 hx
theorem map_lit {r s n q : Int} (h0 : 1 ≤ r) (h1 : r ≤ 63) (hq : ad r n s = q) (b : Nat) (f l : Int) (g : Bool) (w : World) (hx : Mp w b r s f l g) :
    Calls Try.prog 10 #[.pointer (some ⟨b, 0, none⟩), .int .u64 n] w fun e w' => e = .returned (.int .u64 q) ∧ ∃ k, w' = w.drewN k := by
  subst hq; exact map_any b r s f l g n w h0 h1 hx
theorem back_lit {r s n q : Int} (h0 : 1 ≤ r) (h1 : r ≤ 63) (hq : fr r n s = q) (b : Nat) (f l : Int) (g : Bool) (w : World) (hx : Mp w b r s f l g) :
    Calls Try.prog 14 #[.pointer (some ⟨b, 0, none⟩), .int .u64 n] w fun e w' => e = .returned (.int .u64 q) ∧ ∃ k, w' = w.drewN k := by
  subst hq; exact back_any b r s f l g n w h0 h1 hx
theorem aim_lit {r x y q : Int} (h0 : 1 ≤ r) (h1 : r ≤ 63) (hq : fr r y x = q) (b : Nat) (s f l : Int) (g : Bool) (w : World) (hx : Mp w b r s f l g) :
    Calls Try.prog 12 #[.pointer (some ⟨b, 0, none⟩), .int .u64 x, .int .u64 y] w fun e w' => e = .returned (.int .i64 0) ∧ Mp w' b r q f l g ∧ w.grownBy w' (some b) := by
  subst hq; exact aim_any b r s f l g x y w h0 h1 hx
theorem below_own {w w1 w2 : World} (h : Below w.heap.size w w1) (hg : w1.grownBy w2 (some w.heap.size)) : Below w.heap.size w w2 :=
  h.grown hg h.size (fun k e => by cases e; exact Nat.le_refl _)

set_option maxHeartbeats 1000000 in
theorem works_any (w : World) : Calls Try.prog 17 #[] w fun e w' => e = .returned (.bool true) ∧ Below w.heap.size w w' := by
  go_enter Try.func17, Try.ntmps17
  go_wp2_with fail
  refine (new_yes 4 14 _ (by omega) (by omega) (by omega) (by omega)).mono ?_
  rintro e w1 ⟨rfl, hw1⟩
  have hx1 : Mp w1 w.heap.size 4 0 14 0 false := by
    rw [hw1, show lw 4 14 = 14 by decide +kernel]; exact Blk.new _ _ _
  have hb1 : Below w.heap.size w w1 := by rw [hw1]; exact (Below.refl _ _).alloc (Nat.le_refl _) _
  clear hw1
  go_wp2_with fail
  refine (far_lit _).mono ?_
  rintro e w' ⟨rfl, rfl⟩
  go_wp2_with fail
  refine (ahead_lit1 _).mono ?_
  rintro e w' ⟨rfl, rfl⟩
  go_wp2_with fail
  refine (ahead_lit2 _).mono ?_
  rintro e w' ⟨rfl, rfl⟩
  go_wp2_with fail
  refine (ahead_lit3 _).mono ?_
  rintro e w' ⟨rfl, rfl⟩
  go_wp2_with fail
  refine (next_lit (q := 14) (by omega) (by omega) (by omega) (by omega) (by decide +kernel) _ _ _ hx1).mono ?_
  rintro e w2 ⟨rfl, hx2, hg⟩
  have hb2 := below_own hb1 hg
  clear hx1 hb1 hg
  go_wp2_with fail
  refine (next_lit (q := 15) (by omega) (by omega) (by omega) (by omega) (by decide +kernel) _ _ _ hx2).mono ?_
  rintro e w3 ⟨rfl, hx3, hg⟩
  have hb3 := below_own hb2 hg
  clear hx2 hb2 hg
  go_wp2_with fail
  refine (next_lit (q := 0) (by omega) (by omega) (by omega) (by omega) (by decide +kernel) _ _ _ hx3).mono ?_
  rintro e w4 ⟨rfl, hx4, hg⟩
  have hb4 := below_own hb3 hg
  clear hx3 hb3 hg
  go_wp2_with fail
  refine (aim_lit (q := 14) (by omega) (by omega) (by decide +kernel) _ _ _ _ _ _ hx4).mono ?_
  rintro e w5 ⟨rfl, hx5, hg⟩
  have hb5 := below_own hb4 hg
  clear hx4 hb4 hg
  go_wp2_with fail
  refine (map_lit (q := 3) (by omega) (by omega) (by decide +kernel) _ _ _ _ _ hx5).mono ?_
  rintro e w6 ⟨rfl, k6, rfl⟩
  go_wp2_with fail
  refine (back_lit (q := 1) (by omega) (by omega) (by decide +kernel) _ _ _ _ _ (hx5.drewN _)).mono ?_
  rintro e w7 ⟨rfl, k7, rfl⟩
  go_wp2
  go_ret
  exact ⟨rfl, below_drewN hb5 _⟩
end Go.Proofs.Ytelfkghcgigbjaa
