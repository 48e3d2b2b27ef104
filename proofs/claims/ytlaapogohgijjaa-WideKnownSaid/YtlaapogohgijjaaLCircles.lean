/- What is ahead, and how far it is, is the document's; of two numbers one is ahead at most: the walk of the law WideCircles. Conditions: none but that each argument is of its kind. -/
import Derived.Test.YtlaapogohgijjaaDWorks
namespace Go.Proofs.Ytlaapogohgijjaa
open Go.RowKit

theorem btw_self (d a : Int) : btw d a a = 0 := by unfold btw lw; simp
theorem btw_add (d a b : Int) (h : 0 < btw d a b) : btw d b a = pw d - btw d a b := by
  have c0 := pw_pos d
  unfold btw lw at *
  have l := Int.emod_lt_of_pos (b - a) (show 0 < pw d by omega)
  have e : a - b = (pw d - (b - a) % pw d) + pw d * (-((b - a) / pw d) - 1) := by
    have := Int.mul_ediv_add_emod (b - a) (pw d)
    rw [Int.mul_sub, Int.mul_neg]; omega
  have e2 : (a - b) % pw d = (pw d - (b - a) % pw d) % pw d := by
    conv => lhs; rw [e, Int.add_mul_emod_self_left]
  rw [e2]
  exact Int.emod_eq_of_lt (by omega) (by omega)
theorem ah_not_both (d a b : Int) (h : ah d a b = true) : ah d b a = false := by
  unfold ah at *
  simp only [Bool.and_eq_true, decide_eq_true_eq] at h
  obtain ⟨h1, h2⟩ := h
  have k := btw_add d b a h1
  have hh : hf d = pw d / 2 := rfl
  simp only [Bool.and_eq_false_iff, decide_eq_false_iff_not]
  right
  omega

theorem circles_no (d a b : Int) (w : World) (h0 : d < 1 ∨ 32 < d) :
    Calls Try.prog 3 #[.int .i64 d, .int .u32 a, .int .u32 b] w fun e w' => e = .returned (.bool true) ∧ Below w.heap.size w w' := by
  go_enter Try.func3, Try.ntmps3
  go_wp2_with (first
    | (go_at_call 8; refine (ahead_no _ _ _ _ h0).mono ?_; rintro e w' ⟨rfl, rfl⟩)
    | (go_at_call 9; refine (rahead_no _ _ _ _ h0).mono ?_; rintro e w' ⟨rfl, kq, rfl⟩)
    | (go_at_call 10; refine (between_no _ _ _ _ h0).mono ?_; rintro e w' ⟨rfl, rfl⟩)
    | (go_at_call 11; refine (rbetween_no _ _ _ _ h0).mono ?_; rintro e w' ⟨rfl, kq, rfl⟩)
    | (go_at_call 12; refine (works_any _).mono ?_; rintro e w' ⟨rfl, hb⟩))
  go_ret
  exact ⟨rfl, (below_drewN (Below.refl _ w) _).trans hb⟩
theorem circles_yes (d a b : Int) (w : World) (h0 : 1 ≤ d) (h1 : d ≤ 32) (a0 : 0 ≤ a) (a1 : a ≤ 4294967295) (b0 : 0 ≤ b) (b1 : b ≤ 4294967295) :
    Calls Try.prog 3 #[.int .i64 d, .int .u32 a, .int .u32 b] w fun e w' => e = .returned (.bool true) ∧ Below w.heap.size w w' := by
  have hs := btw_self d a
  cases hx : ah d a b
  · go_enter Try.func3, Try.ntmps3
    go_wp2_with (first
      | (go_at_call 8; refine (ahead_yes _ _ _ _ h0 h1 (by omega) (by omega) (by omega) (by omega)).mono ?_; rintro e w' ⟨rfl, rfl⟩)
      | (go_at_call 9; refine (rahead_yes _ _ _ _ h0 h1 (by omega) (by omega) (by omega) (by omega)).mono ?_; rintro e w' ⟨rfl, kq, rfl⟩)
      | (go_at_call 10; refine (between_yes _ _ _ _ h0 h1 (by omega) (by omega) (by omega) (by omega)).mono ?_; rintro e w' ⟨rfl, rfl⟩)
      | (go_at_call 11; refine (rbetween_yes _ _ _ _ h0 h1 (by omega) (by omega) (by omega) (by omega)).mono ?_; rintro e w' ⟨rfl, kq, rfl⟩)
      | (go_at_call 12; refine (works_any _).mono ?_; rintro e w' ⟨rfl, hb⟩))
    go_ret
    exact ⟨rfl, (below_drewN (Below.refl _ w) _).trans hb⟩
  · have hy := ah_not_both d a b hx
    go_enter Try.func3, Try.ntmps3
    go_wp2_with (first
      | (go_at_call 8; refine (ahead_yes _ _ _ _ h0 h1 (by omega) (by omega) (by omega) (by omega)).mono ?_; rintro e w' ⟨rfl, rfl⟩)
      | (go_at_call 9; refine (rahead_yes _ _ _ _ h0 h1 (by omega) (by omega) (by omega) (by omega)).mono ?_; rintro e w' ⟨rfl, kq, rfl⟩)
      | (go_at_call 10; refine (between_yes _ _ _ _ h0 h1 (by omega) (by omega) (by omega) (by omega)).mono ?_; rintro e w' ⟨rfl, rfl⟩)
      | (go_at_call 11; refine (rbetween_yes _ _ _ _ h0 h1 (by omega) (by omega) (by omega) (by omega)).mono ?_; rintro e w' ⟨rfl, kq, rfl⟩)
      | (go_at_call 12; refine (works_any _).mono ?_; rintro e w' ⟨rfl, hb⟩))
    go_ret
    exact ⟨rfl, (below_drewN (Below.refl _ w) _).trans hb⟩
theorem circles_any (d a b : Int) (w : World) (_w0 : (Lit.int .i64 d).wf = true) (w1 : (Lit.int .u32 a).wf = true) (w2 : (Lit.int .u32 b).wf = true) :
    Calls Try.prog 3 #[.int .i64 d, .int .u32 a, .int .u32 b] w fun e w' => e = .returned (.bool true) ∧ Below w.heap.size w w' := by
  obtain ⟨a0, a1⟩ := u32_bd w1
  obtain ⟨b0, b1⟩ := u32_bd w2
  by_cases h : d < 1 ∨ 32 < d
  · exact circles_no d a b w h
  · exact circles_yes d a b w (by omega) (by omega) a0 a1 b0 b1
end Go.Proofs.Ytlaapogohgijjaa
