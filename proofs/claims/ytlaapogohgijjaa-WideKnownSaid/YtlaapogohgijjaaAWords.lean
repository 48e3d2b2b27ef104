/- Powers of two, and the circle's own functions. Conditions: none. -/
import Derived.Test.YtlaapogohgijjaaWords
namespace Go.Proofs.Ytlaapogohgijjaa
open Go.RowKit

def pw (d : Int) : Int := 2 ^ d.toNat
theorem pw_nat (d : Int) : pw d = ((2 ^ d.toNat : Nat) : Int) := by simp [pw]
theorem pw_pos (d : Int) : 1 ≤ pw d := by
  rw [pw_nat]; have := Nat.two_pow_pos d.toNat; omega
theorem pw_le (d : Int) (h1 : d ≤ 63) : pw d ≤ 9223372036854775808 := by
  rw [pw_nat]
  have h : (2 : Nat) ^ d.toNat ≤ 2 ^ 63 := Nat.pow_le_pow_right (by decide) (by omega)
  have e : (2 : Nat) ^ 63 = 9223372036854775808 := by decide
  omega
theorem wrap_pw (d : Int) (h1 : d ≤ 63) : IntKind.u64.wrap (2 ^ d.toNat) = pw d := by
  rw [IntKind.wrap_u64]
  have h := pw_pos d
  have h' := pw_le d h1
  show pw d % 18446744073709551616 = pw d
  omega

def lw (d n : Int) : Int := n % pw d
theorem lw_bd (d n : Int) : 0 ≤ lw d n ∧ lw d n < pw d := by
  have h := pw_pos d
  exact ⟨Int.emod_nonneg _ (by omega), Int.emod_lt_of_pos _ (by omega)⟩
theorem and_pw (d n : Int) (h1 : d ≤ 63) (n0 : 0 ≤ n) (n1 : n < 18446744073709551616) : bits .and .u64 n (pw d - 1) = lw d n := by
  have h := pw_pos d
  have h' := pw_le d h1
  rw [u64_and n (pw d - 1) n0 n1 (by omega) (by omega)]
  obtain ⟨m, rfl⟩ := Int.eq_ofNat_of_zero_le n0
  unfold lw
  rw [pw_nat]
  have e : ((2 ^ d.toNat : Nat) : Int) - 1 = ((2 ^ d.toNat - 1 : Nat) : Int) := by
    have := Nat.two_pow_pos d.toNat; omega
  rw [e, Int.toNat_natCast, Int.toNat_natCast, Nat.and_two_pow_sub_one_eq_mod]
  simp

set_option maxHeartbeats 400000 in
theorem size_any (d : Int) (w : World) (h0 : 0 ≤ d) (h1 : d ≤ 63) :
    Calls Try.prog 26 #[.int .i64 d] w fun e w' => e = .returned (.int .u64 (pw d)) ∧ w = w' := by
  go_enter Try.func26, Try.ntmps26
  go_wp2
  go_ret
  exact ⟨ret_int (wrap_pw d h1), rfl⟩

set_option maxHeartbeats 400000 in
theorem low_any (d n : Int) (w : World) (h0 : 0 ≤ d) (h1 : d ≤ 63) (n0 : 0 ≤ n) (n1 : n ≤ 18446744073709551615) :
    Calls Try.prog 25 #[.int .i64 d, .int .u64 n] w fun e w' => e = .returned (.int .u64 (lw d n)) ∧ w = w' := by
  have p0 := pw_pos d
  have p1 := pw_le d h1
  go_enter Try.func25, Try.ntmps25
  go_wp2_with (go_at_call 26; refine (size_any _ _ (by omega) (by omega)).mono ?_; rintro e w' ⟨rfl, rfl⟩)
  go_ret
  exact ⟨ret_int (and_pw d n h1 n0 (by omega)), rfl⟩

def hf (d : Int) : Int := pw d / 2
set_option maxHeartbeats 400000 in
theorem half_any (d : Int) (w : World) (h0 : 0 ≤ d) (h1 : d ≤ 63) :
    Calls Try.prog 23 #[.int .i64 d] w fun e w' => e = .returned (.int .u64 (hf d)) ∧ w = w' := by
  have p0 := pw_pos d
  have p1 := pw_le d h1
  go_enter Try.func23, Try.ntmps23
  go_wp2_with (go_at_call 26; refine (size_any _ _ (by omega) (by omega)).mono ?_; rintro e w' ⟨rfl, rfl⟩)
  go_ret
  exact ⟨ret_int rfl, rfl⟩

theorem right_yes (d : Int) (w : World) (h0 : 1 ≤ d) (h1 : d ≤ 32) :
    Calls Try.prog 24 #[.int .i64 d] w fun e w' => e = .returned (.bool true) ∧ w = w' := by
  go_enter Try.func24, Try.ntmps24
  go_wp2
  go_ret
  exact ⟨rfl, rfl⟩
theorem right_no (d : Int) (w : World) (h0 : d < 1 ∨ 32 < d) :
    Calls Try.prog 24 #[.int .i64 d] w fun e w' => e = .returned (.bool false) ∧ w = w' := by
  rcases h0 with h0 | h0
  · go_enter Try.func24, Try.ntmps24
    go_wp2
    go_ret
    exact ⟨rfl, rfl⟩
  · go_enter Try.func24, Try.ntmps24
    go_wp2
    go_ret
    exact ⟨ret_bool (by simp; omega), rfl⟩

/-- How far it is from one number to another one. -/
def btw (d a b : Int) : Int := lw d (b - a)
theorem btw_bd (d a b : Int) : 0 ≤ btw d a b ∧ btw d a b < pw d := lw_bd d _
theorem lw_wrap (d x : Int) (h1 : d ≤ 63) : lw d (IntKind.u64.wrap x) = lw d x := by
  rw [IntKind.wrap_u64]
  unfold lw
  rw [pw_nat]
  have e : (18446744073709551616 : Int) = ((2 ^ d.toNat : Nat) : Int) * ((2 ^ (64 - d.toNat) : Nat) : Int) := by
    rw [← Int.natCast_mul, ← Nat.pow_add, show d.toNat + (64 - d.toNat) = 64 by omega]; rfl
  rw [e, Int.emod_emod_of_dvd _ ⟨_, rfl⟩]
theorem pw_le32 (d : Int) (h1 : d ≤ 32) : pw d ≤ 4294967296 := by
  rw [pw_nat]
  have h : (2 : Nat) ^ d.toNat ≤ 2 ^ 32 := Nat.pow_le_pow_right (by decide) (by omega)
  have e : (2 : Nat) ^ 32 = 4294967296 := by decide
  omega
set_option maxHeartbeats 400000 in
theorem between_yes (d a b : Int) (w : World) (h0 : 1 ≤ d) (h1 : d ≤ 32) (a0 : 0 ≤ a) (a1 : a ≤ 4294967295) (b0 : 0 ≤ b) (b1 : b ≤ 4294967295) :
    Calls Try.prog 10 #[.int .i64 d, .int .u32 a, .int .u32 b] w fun e w' => e = .returned (.int .u32 (btw d a b)) ∧ w = w' := by
  have l0 := (lw_bd d (IntKind.u64.wrap (b - a))).1
  have l1 := (lw_bd d (IntKind.u64.wrap (b - a))).2
  have l2 := pw_le32 d h1
  have HW : Hid (lw d (IntKind.u64.wrap (b - a)) = btw d a b) := Lib.hid (lw_wrap d (b - a) (by omega))
  go_enter Try.func10, Try.ntmps10
  go_wp2_with (first
    | (go_at_call 24; refine (right_yes _ _ (by omega) (by omega)).mono ?_; rintro e w' ⟨rfl, rfl⟩)
    | (go_at_call 25; refine (low_any _ _ _ (by omega) (by omega) (by simp [IntKind.wrap_u64]; omega) (by simp [IntKind.wrap_u64]; omega)).mono ?_; rintro e w' ⟨rfl, rfl⟩))
  go_ret
  exact ⟨ret_int HW.out, rfl⟩
theorem between_no (d a b : Int) (w : World) (h0 : d < 1 ∨ 32 < d) :
    Calls Try.prog 10 #[.int .i64 d, .int .u32 a, .int .u32 b] w fun e w' => e = .returned (.int .u32 0) ∧ w = w' := by
  go_enter Try.func10, Try.ntmps10
  go_wp2_with (go_at_call 24; refine (right_no _ _ h0).mono ?_; rintro e w' ⟨rfl, rfl⟩)
  go_ret
  exact ⟨rfl, rfl⟩
end Go.Proofs.Ytlaapogohgijjaa
