/- Rings of numbers: the code's own functions and the reference's, each by a contract. Conditions: digits from 1 to 63, or not; numbers of their kinds. -/
import Derived.Test.YtelfkghcgigbjaaWords
namespace Go.Proofs.Ytelfkghcgigbjaa
open Go.RowKit

def pw (d : Int) : Int := 2 ^ d.toNat
theorem pw_nat (d : Int) : pw d = ((2 ^ d.toNat : Nat) : Int) := by simp [pw]
theorem pw_pos (d : Int) : 1 ≤ pw d := by
  rw [pw_nat]; have := Nat.two_pow_pos d.toNat; omega
theorem pw_le (d : Int) (h1 : d ≤ 63) : pw d ≤ 9223372036854775808 := by
  rw [pw_nat]
  have h : (2 : Nat) ^ d.toNat ≤ 2 ^ 63 := Nat.pow_le_pow_right (by decide) (by omega)
  have e : (2 : Nat) ^ 63 = 9223372036854775808 := by decide
  omega
theorem wrap_pw (d : Int) (h1 : d ≤ 63) : IntKind.u64.wrap (2 ^ d.toNat) = pw d := by
  rw [IntKind.wrap_u64]
  have h := pw_pos d
  have h' := pw_le d h1
  show pw d % 18446744073709551616 = pw d
  omega
def hf (d : Int) : Int := pw (d - 1)
theorem pw_even (d : Int) (h0 : 1 ≤ d) : pw d = 2 * hf d := by
  unfold hf
  rw [pw_nat, pw_nat]
  obtain ⟨m, hm⟩ : ∃ m, d.toNat = m + 1 := ⟨d.toNat - 1, by omega⟩
  rw [hm, show (d - 1).toNat = m by omega, Nat.pow_succ]
  omega
theorem pw_zero : pw 0 = 1 := rfl
theorem pw_succ (k : Nat) : pw ((k : Int) + 1) = pw k * 2 := by
  unfold pw
  rw [show ((k : Int) + 1).toNat = k + 1 by omega, Int.toNat_natCast, Int.pow_succ]
def lw (d n : Int) : Int := n % pw d
theorem lw_bd (d n : Int) : 0 ≤ lw d n ∧ lw d n < pw d := by
  have h := pw_pos d
  exact ⟨Int.emod_nonneg _ (by omega), Int.emod_lt_of_pos _ (by omega)⟩
theorem and_pw (d n : Int) (h1 : d ≤ 63) (n0 : 0 ≤ n) (n1 : n < 18446744073709551616) : bits .and .u64 n (pw d - 1) = lw d n := by
  have h := pw_pos d
  have h' := pw_le d h1
  rw [u64_and n (pw d - 1) n0 n1 (by omega) (by omega)]
  obtain ⟨m, rfl⟩ := Int.eq_ofNat_of_zero_le n0
  unfold lw
  rw [pw_nat]
  have e : ((2 ^ d.toNat : Nat) : Int) - 1 = ((2 ^ d.toNat - 1 : Nat) : Int) := by
    have := Nat.two_pow_pos d.toNat; omega
  rw [e, Int.toNat_natCast, Int.toNat_natCast, Nat.and_two_pow_sub_one_eq_mod]
  simp
theorem lw_wrap (d x : Int) (h1 : d ≤ 63) : lw d (IntKind.u64.wrap x) = lw d x := by
  rw [IntKind.wrap_u64]
  unfold lw
  rw [pw_nat]
  have e : (18446744073709551616 : Int) = ((2 ^ d.toNat : Nat) : Int) * ((2 ^ (64 - d.toNat) : Nat) : Int) := by
    rw [← Int.natCast_mul, ← Nat.pow_add, show d.toNat + (64 - d.toNat) = 64 by omega]; rfl
  rw [e, Int.emod_emod_of_dvd _ ⟨_, rfl⟩]
theorem lw_lw_sub (d a b : Int) : lw d (a - b) = if lw d b ≤ lw d a then lw d a - lw d b else lw d a - lw d b + pw d := by
  have c0 := pw_pos d
  have x := lw_bd d b
  have l := lw_bd d a
  have hb : pw d * (b / pw d) + lw d b = b := Int.mul_ediv_add_emod b (pw d)
  have ha : pw d * (a / pw d) + lw d a = a := Int.mul_ediv_add_emod a (pw d)
  have e : a - b = (lw d a - lw d b) + pw d * (a / pw d - b / pw d) := by
    rw [Int.mul_sub]; omega
  have e2 : lw d (a - b) = (lw d a - lw d b) % pw d := by
    conv => lhs; rw [lw, e, Int.add_mul_emod_self_left]
  rw [e2]
  split
  · exact Int.emod_eq_of_lt (by omega) (by omega)
  · rw [← Int.add_emod_right]
    exact Int.emod_eq_of_lt (by omega) (by omega)
theorem lw_add (d a b : Int) : (lw d a + lw d b) % pw d = lw d (a + b) := by
  unfold lw
  rw [← Int.add_emod]
theorem lw_idem (d a : Int) : lw d (lw d a) = lw d a := by unfold lw; rw [Int.emod_emod_of_dvd _ ⟨1, by simp⟩]

/-- The sum, the distance. -/
def ad (r n b : Int) : Int := lw r (n + b)
def fr (r a b : Int) : Int := lw r (a - b)
def ah (r a b : Int) : Bool := decide (0 < fr r a b) && decide (fr r a b < hf r)

theorem right_yes (d : Int) (w : World) (h0 : 1 ≤ d) (h1 : d ≤ 63) :
    Calls Try.prog 29 #[.int .i64 d] w fun e w' => e = .returned (.bool true) ∧ w = w' := by
  go_enter Try.func29, Try.ntmps29
  go_wp2
  go_ret
  exact ⟨rfl, rfl⟩
theorem right_no (d : Int) (w : World) (h0 : d < 1 ∨ 63 < d) :
    Calls Try.prog 29 #[.int .i64 d] w fun e w' => e = .returned (.bool false) ∧ w = w' := by
  rcases h0 with h0 | h0
  · go_enter Try.func29, Try.ntmps29
    go_wp2
    go_ret
    exact ⟨rfl, rfl⟩
  · go_enter Try.func29, Try.ntmps29
    go_wp2
    go_ret
    exact ⟨ret_bool (by simp; omega), rfl⟩
theorem cut_yes (d n : Int) (w : World) (h0 : 1 ≤ d) (h1 : d ≤ 63) (n0 : 0 ≤ n) (n1 : n ≤ 18446744073709551615) :
    Calls Try.prog 11 #[.int .i64 d, .int .u64 n] w fun e w' => e = .returned (.int .u64 (lw d n)) ∧ w = w' := by
  have p0 := pw_pos d
  have p1 := pw_le d h1
  have HW := Lib.hid (wrap_pw d h1)
  go_enter Try.func11, Try.ntmps11
  go_wp2_with (go_at_call 29; refine (right_yes _ _ h0 h1).mono ?_; rintro e w' ⟨rfl, rfl⟩)
  go_ret
  refine ⟨ret_int ?_, rfl⟩
  show bits .and .u64 n (IntKind.u64.wrap (IntKind.u64.wrap (2 ^ d.toNat) - 1)) = lw d n
  rw [HW.out, show IntKind.u64.wrap (pw d - 1) = pw d - 1 by rw [IntKind.wrap_u64]; omega]
  exact and_pw d n h1 n0 (by omega)
theorem cut_no (d n : Int) (w : World) (h0 : d < 1 ∨ 63 < d) :
    Calls Try.prog 11 #[.int .i64 d, .int .u64 n] w fun e w' => e = .returned (.int .u64 0) ∧ w = w' := by
  go_enter Try.func11, Try.ntmps11
  go_wp2_with (go_at_call 29; refine (right_no _ _ h0).mono ?_; rintro e w' ⟨rfl, rfl⟩)
  go_ret
  exact ⟨rfl, rfl⟩
theorem wrap_bd (x : Int) : 0 ≤ IntKind.u64.wrap x ∧ IntKind.u64.wrap x ≤ 18446744073709551615 := by rw [IntKind.wrap_u64]; omega
theorem add_yes (d n b : Int) (w : World) (h0 : 1 ≤ d) (h1 : d ≤ 63) :
    Calls Try.prog 18 #[.int .i64 d, .int .u64 n, .int .u64 b] w fun e w' => e = .returned (.int .u64 (ad d n b)) ∧ w = w' := by
  have HW := Lib.hid (lw_wrap d (n + b) h1)
  have x := wrap_bd (n + b)
  go_enter Try.func18, Try.ntmps18
  go_wp2_with (go_at_call 11; refine (cut_yes _ _ _ h0 h1 (by omega) (by omega)).mono ?_; rintro e w' ⟨rfl, rfl⟩)
  go_ret
  exact ⟨ret_int HW.out, rfl⟩
theorem add_no (d n b : Int) (w : World) (h0 : d < 1 ∨ 63 < d) :
    Calls Try.prog 18 #[.int .i64 d, .int .u64 n, .int .u64 b] w fun e w' => e = .returned (.int .u64 0) ∧ w = w' := by
  go_enter Try.func18, Try.ntmps18
  go_wp2_with (go_at_call 11; refine (cut_no _ _ _ h0).mono ?_; rintro e w' ⟨rfl, rfl⟩)
  go_ret
  exact ⟨rfl, rfl⟩
theorem far_yes (d a b : Int) (w : World) (h0 : 1 ≤ d) (h1 : d ≤ 63) :
    Calls Try.prog 13 #[.int .i64 d, .int .u64 a, .int .u64 b] w fun e w' => e = .returned (.int .u64 (fr d a b)) ∧ w = w' := by
  have HW := Lib.hid (lw_wrap d (a - b) h1)
  have x := wrap_bd (a - b)
  go_enter Try.func13, Try.ntmps13
  go_wp2_with (go_at_call 11; refine (cut_yes _ _ _ h0 h1 (by omega) (by omega)).mono ?_; rintro e w' ⟨rfl, rfl⟩)
  go_ret
  exact ⟨ret_int HW.out, rfl⟩
theorem far_no (d a b : Int) (w : World) (h0 : d < 1 ∨ 63 < d) :
    Calls Try.prog 13 #[.int .i64 d, .int .u64 a, .int .u64 b] w fun e w' => e = .returned (.int .u64 0) ∧ w = w' := by
  go_enter Try.func13, Try.ntmps13
  go_wp2_with (go_at_call 11; refine (cut_no _ _ _ h0).mono ?_; rintro e w' ⟨rfl, rfl⟩)
  go_ret
  exact ⟨rfl, rfl⟩
theorem ahead_yes (d a b : Int) (w : World) (h0 : 1 ≤ d) (h1 : d ≤ 63) :
    Calls Try.prog 15 #[.int .i64 d, .int .u64 a, .int .u64 b] w fun e w' => e = .returned (.bool (ah d a b)) ∧ w = w' := by
  have l0 := (lw_bd d (a - b)).1
  have hw : IntKind.u64.wrap (2 ^ (d.toNat - 1)) = hf d := by
    have h := wrap_pw (d - 1) (by omega)
    rwa [show (d - 1).toNat = d.toNat - 1 by omega] at h
  have HW := Lib.hid hw
  clear hw
  by_cases hc : 0 < fr d a b
  · go_enter Try.func15, Try.ntmps15
    go_wp2_with (go_at_call 13; refine (far_yes _ _ _ _ h0 h1).mono ?_; rintro e w' ⟨rfl, rfl⟩)
    go_ret
    refine ⟨ret_bool ?_, rfl⟩
    show decide (fr d a b < IntKind.u64.wrap (2 ^ (d.toNat - 1))) = _
    rw [HW.out]
    simp [ah, hc]
  · go_enter Try.func15, Try.ntmps15
    go_wp2_with (go_at_call 13; refine (far_yes _ _ _ _ h0 h1).mono ?_; rintro e w' ⟨rfl, rfl⟩)
    go_ret
    exact ⟨ret_bool (by simp [ah]; omega), rfl⟩
theorem ahead_no (d a b : Int) (w : World) (h0 : d < 1 ∨ 63 < d) :
    Calls Try.prog 15 #[.int .i64 d, .int .u64 a, .int .u64 b] w fun e w' => e = .returned (.bool false) ∧ w = w' := by
  go_enter Try.func15, Try.ntmps15
  go_wp2_with (go_at_call 13; refine (far_no _ _ _ _ h0).mono ?_; rintro e w' ⟨rfl, rfl⟩)
  go_ret
  exact ⟨rfl, rfl⟩

theorem rright_yes (d : Int) (w : World) (h0 : 1 ≤ d) (h1 : d ≤ 63) :
    Calls Try.prog 19 #[.int .i64 d] w fun e w' => e = .returned (.bool true) ∧ w = w' := by
  go_enter Try.func19, Try.ntmps19
  go_wp2
  go_ret
  exact ⟨ret_bool (by simp; try omega), rfl⟩
theorem rright_no (d : Int) (w : World) (h0 : d < 1 ∨ 63 < d) :
    Calls Try.prog 19 #[.int .i64 d] w fun e w' => e = .returned (.bool false) ∧ w = w' := by
  rcases h0 with h0 | h0
  · go_enter Try.func19, Try.ntmps19
    go_wp2
    go_ret
    exact ⟨ret_bool (by simp; try omega), rfl⟩
  · go_enter Try.func19, Try.ntmps19
    go_wp2
    go_ret
    exact ⟨ret_bool (by simp; try omega), rfl⟩
theorem size_any (d : Int) (w : World) (h0 : 0 ≤ d) (h1 : d ≤ 63) :
    Calls Try.prog 32 #[.int .i64 d] w fun e w' => e = .returned (.int .u64 (pw d)) ∧ w = w' := by
  obtain ⟨m, rfl⟩ := Int.eq_ofNat_of_zero_le h0
  have hm : m ≤ 63 := by omega
  go_enter Try.func32, Try.ntmps32
  go_wp2
  go_loop [3, 4] (fun n i => ∃ k : Nat, k ≤ m ∧ i = .int .i64 k ∧ n = .int .u64 (pw k)) (fun _ i => m - (intOf i).toNat)
  case atStart => exact ⟨0, Nat.zero_le _, rfl, rfl⟩
  case round =>
    obtain ⟨k, hk, rfl, rfl⟩ := hrel
    have p0 := pw_pos k
    by_cases hlt : k < m
    · have HS := Lib.hid (pw_succ k)
      have p1 : pw k * 2 ≤ 9223372036854775808 := by rw [← pw_succ]; exact pw_le _ (by omega)
      go_wp2
      go_round
      case rel => exact ⟨k + 1, by omega, by go_num, by rw [Int.natCast_add, Int.natCast_one, HS.out]⟩
      case measure => simp [intOf]; omega
    · go_wp2
      go_ret
      have e : k = m := by omega
      subst e
      exact ⟨rfl, rfl⟩
theorem rcut_yes (d n : Int) (w : World) (h0 : 1 ≤ d) (h1 : d ≤ 63) (n0 : 0 ≤ n) (n1 : n ≤ 18446744073709551615) :
    Calls Try.prog 30 #[.int .i64 d, .int .u64 n] w fun e w' => e = .returned (.int .u64 (lw d n)) ∧ w = w' := by
  have p0 := pw_pos d
  have p1 := pw_le d h1
  go_enter Try.func30, Try.ntmps30
  go_wp2_with (first
    | (go_at_call 19; refine (rright_yes _ _ h0 h1).mono ?_; rintro e w' ⟨rfl, rfl⟩)
    | (go_at_call 32; refine (size_any _ _ (by omega) h1).mono ?_; rintro e w' ⟨rfl, rfl⟩))
  go_ret
  exact ⟨rfl, rfl⟩
theorem rcut_no (d n : Int) (w : World) (h0 : d < 1 ∨ 63 < d) :
    Calls Try.prog 30 #[.int .i64 d, .int .u64 n] w fun e w' => e = .returned (.int .u64 0) ∧ w = w' := by
  go_enter Try.func30, Try.ntmps30
  go_wp2_with (go_at_call 19; refine (rright_no _ _ h0).mono ?_; rintro e w' ⟨rfl, rfl⟩)
  go_ret
  exact ⟨rfl, rfl⟩
theorem tmod_lw (d x : Int) (x0 : 0 ≤ x) : x.tmod (pw d) = lw d x := by
  unfold lw; exact Int.tmod_eq_emod_of_nonneg x0
theorem radd_yes (d n b : Int) (w : World) (h0 : 1 ≤ d) (h1 : d ≤ 63) (n0 : 0 ≤ n) (b0 : 0 ≤ b) :
    Calls Try.prog 21 #[.int .i64 d, .int .u64 n, .int .u64 b] w fun e w' => e = .returned (.int .u64 (ad d n b)) ∧ ∃ k, w' = w.drewN k := by
  have p0 := pw_pos d
  have p1 := pw_le d h1
  have x := lw_bd d n
  have y := lw_bd d b
  have E1 := tmod_lw d n n0
  have E2 := tmod_lw d b b0
  have E3 : IntKind.u64.wrap (lw d n + lw d b) = lw d n + lw d b := by rw [IntKind.wrap_u64]; omega
  have E4 : (lw d n + lw d b).tmod (pw d) = ad d n b := by
    rw [Int.tmod_eq_emod_of_nonneg (by omega)]; exact lw_add d n b
  have E5 : pw d ≠ 0 := by omega
  clear x y
  go_enter Try.func21, Try.ntmps21
  go_wp2_with (go_at_call 19; refine (rright_yes _ _ h0 h1).mono ?_; rintro e w' ⟨rfl, rfl⟩)
  go_quiet ((first
    | (go_at_call 32; exact quiet_left (size_any _ _ (by omega) h1))))
  clear E1 E2 E3 E4
  go_wp2
  go_ret
  exact ⟨rfl, _, rfl⟩
theorem radd_no (d n b : Int) (w : World) (h0 : d < 1 ∨ 63 < d) :
    Calls Try.prog 21 #[.int .i64 d, .int .u64 n, .int .u64 b] w fun e w' => e = .returned (.int .u64 0) ∧ ∃ k, w' = w.drewN k := by
  go_enter Try.func21, Try.ntmps21
  go_wp2_with (go_at_call 19; refine (rright_no _ _ h0).mono ?_; rintro e w' ⟨rfl, rfl⟩)
  go_ret
  exact ⟨rfl, 0, rfl⟩
theorem rfar_yes (d a b : Int) (w : World) (h0 : 1 ≤ d) (h1 : d ≤ 63) (a0 : 0 ≤ a) (a1 : a ≤ 18446744073709551615) (b0 : 0 ≤ b) (b1 : b ≤ 18446744073709551615) :
    Calls Try.prog 20 #[.int .i64 d, .int .u64 a, .int .u64 b] w fun e w' => e = .returned (.int .u64 (fr d a b)) ∧ w = w' := by
  have p0 := pw_pos d
  have p1 := pw_le d h1
  obtain ⟨x0, x1⟩ := lw_bd d a
  obtain ⟨y0, y1⟩ := lw_bd d b
  have HS := Lib.hid (lw_lw_sub d a b)
  by_cases hc : lw d b ≤ lw d a
  · go_enter Try.func20, Try.ntmps20
    go_wp2_with (first
      | (go_at_call 19; refine (rright_yes _ _ h0 h1).mono ?_; rintro e w' ⟨rfl, rfl⟩)
      | (go_at_call 30; refine (rcut_yes _ _ _ h0 h1 (by omega) (by omega)).mono ?_; rintro e w' ⟨rfl, rfl⟩)
      | (go_at_call 32; refine (size_any _ _ (by omega) h1).mono ?_; rintro e w' ⟨rfl, rfl⟩))
    go_ret
    exact ⟨ret_int (by unfold fr; rw [HS.out, if_pos hc]), rfl⟩
  · go_enter Try.func20, Try.ntmps20
    go_wp2_with (first
      | (go_at_call 19; refine (rright_yes _ _ h0 h1).mono ?_; rintro e w' ⟨rfl, rfl⟩)
      | (go_at_call 30; refine (rcut_yes _ _ _ h0 h1 (by omega) (by omega)).mono ?_; rintro e w' ⟨rfl, rfl⟩)
      | (go_at_call 32; refine (size_any _ _ (by omega) h1).mono ?_; rintro e w' ⟨rfl, rfl⟩))
    go_ret
    exact ⟨ret_int (by unfold fr; rw [HS.out, if_neg (by omega)]; omega), rfl⟩
theorem rfar_no (d a b : Int) (w : World) (h0 : d < 1 ∨ 63 < d) :
    Calls Try.prog 20 #[.int .i64 d, .int .u64 a, .int .u64 b] w fun e w' => e = .returned (.int .u64 0) ∧ w = w' := by
  go_enter Try.func20, Try.ntmps20
  go_wp2_with (go_at_call 19; refine (rright_no _ _ h0).mono ?_; rintro e w' ⟨rfl, rfl⟩)
  go_ret
  exact ⟨rfl, rfl⟩
theorem rahead_yes (d a b : Int) (w : World) (h0 : 1 ≤ d) (h1 : d ≤ 63) (a0 : 0 ≤ a) (a1 : a ≤ 18446744073709551615) (b0 : 0 ≤ b) (b1 : b ≤ 18446744073709551615) :
    Calls Try.prog 31 #[.int .i64 d, .int .u64 a, .int .u64 b] w fun e w' => e = .returned (.bool (ah d a b)) ∧ w = w' := by
  have p0 := pw_pos d
  have p1 := pw_le d h1
  have pe := pw_even d h0
  have ph : 1 ≤ hf d := pw_pos (d - 1)
  have x0 : 0 ≤ fr d a b := (lw_bd d _).1
  have HE : pw d / 2 = hf d := by omega
  have HE := Lib.hid HE
  by_cases hc : 1 ≤ fr d a b
  · go_enter Try.func31, Try.ntmps31
    go_wp2_with (first
      | (go_at_call 19; refine (rright_yes _ _ h0 h1).mono ?_; rintro e w' ⟨rfl, rfl⟩)
      | (go_at_call 20; refine (rfar_yes _ _ _ _ h0 h1 a0 a1 b0 b1).mono ?_; rintro e w' ⟨rfl, rfl⟩)
      | (go_at_call 32; refine (size_any _ _ (by omega) h1).mono ?_; rintro e w' ⟨rfl, rfl⟩))
    go_ret
    exact ⟨ret_bool (by unfold ah; rw [Bool.eq_iff_iff]; simp; omega), rfl⟩
  · go_enter Try.func31, Try.ntmps31
    go_wp2_with (first
      | (go_at_call 19; refine (rright_yes _ _ h0 h1).mono ?_; rintro e w' ⟨rfl, rfl⟩)
      | (go_at_call 20; refine (rfar_yes _ _ _ _ h0 h1 a0 a1 b0 b1).mono ?_; rintro e w' ⟨rfl, rfl⟩)
      | (go_at_call 32; refine (size_any _ _ (by omega) h1).mono ?_; rintro e w' ⟨rfl, rfl⟩))
    go_ret
    exact ⟨ret_bool (by simp [ah]; omega), rfl⟩
theorem rahead_no (d a b : Int) (w : World) (h0 : d < 1 ∨ 63 < d) :
    Calls Try.prog 31 #[.int .i64 d, .int .u64 a, .int .u64 b] w fun e w' => e = .returned (.bool false) ∧ w = w' := by
  go_enter Try.func31, Try.ntmps31
  go_wp2_with (go_at_call 19; refine (rright_no _ _ h0).mono ?_; rintro e w' ⟨rfl, rfl⟩)
  go_ret
  exact ⟨rfl, rfl⟩
end Go.Proofs.Ytelfkghcgigbjaa
