/- The reference's functions of the wide chapter, each by a contract, in the extender's own words. Conditions: digits from 1 to 32, numbers of their kinds. -/
import Derived.Test.YtlaapogohgijjaaAPlain
namespace Go.Proofs.Ytlaapogohgijjaa
open Go.RowKit

theorem pw_zero : pw 0 = 1 := rfl
theorem pw_succ (k : Nat) : pw ((k : Int) + 1) = 2 * pw k := by
  unfold pw
  rw [show ((k : Int) + 1).toNat = k + 1 by omega, Int.toNat_natCast, Int.pow_succ]
  omega
theorem circle_any (d : Int) (w : World) (h0 : 0 ≤ d) (h1 : d ≤ 32) :
    Calls Try.prog 22 #[.int .i64 d] w fun e w' => e = .returned (.int .u64 (pw d)) ∧ w = w' := by
  obtain ⟨m, rfl⟩ := Int.eq_ofNat_of_zero_le h0
  have hm : m ≤ 32 := by omega
  go_enter Try.func22, Try.ntmps22
  go_wp2
  go_loop [3, 4] (fun n i => ∃ k : Nat, k ≤ m ∧ i = .int .i64 k ∧ n = .int .u64 (pw k)) (fun _ i => m - (intOf i).toNat)
  case atStart => exact ⟨0, Nat.zero_le _, rfl, rfl⟩
  case round =>
    obtain ⟨k, hk, rfl, rfl⟩ := hrel
    have p0 := pw_pos k
    have p1 := pw_le32 k (by omega)
    by_cases hlt : k < m
    · have HS := Lib.hid (pw_succ k)
      go_wp2
      go_round
      case rel => exact ⟨k + 1, by omega, by go_num, by rw [Int.natCast_add, Int.natCast_one, HS.out]⟩
      case measure => simp [intOf]; omega
    · go_wp2
      go_ret
      have e : k = m := by omega
      subst e
      exact ⟨rfl, rfl⟩

theorem tmod_lw (d x : Int) (x0 : 0 ≤ x) : x.tmod (pw d) = lw d x := by
  unfold lw; exact Int.tmod_eq_emod_of_nonneg x0
/-- What the reference's state leaves in memory. -/
abbrev rb (d t : Int) (g : Bool) : Obj := .cells #[.int .i64 d, .int .u64 t, .bool g] 33
set_option maxHeartbeats 1000000 in
theorem rpeek_yes (d t n : Int) (w : World) (h0 : 1 ≤ d) (h1 : d ≤ 32) (t0 : 0 ≤ t) (t1 : t ≤ 18446744073709551615) (n0 : 0 ≤ n) (n1 : n ≤ 4294967295) :
    Calls Try.prog 16 #[.agg #[.int .i64 d, .int .u64 t, .bool true], .int .u32 n] w fun e w' => e = .returned (.int .u64 (pk d t true n)) ∧ ∃ k, w' = (w.alloc (rb d t true)).drewN k := by
  have p0 := pw_pos d
  have p1 := pw_le32 d h1
  have a0 := (lw_bd d t).1
  have a1 := (lw_bd d t).2
  have l0 := (lw_bd d n).1
  have l1 := (lw_bd d n).2
  have wn : IntKind.u64.wrap n = n := by rw [IntKind.wrap_u64]; omega
  have E1 := tmod_lw d t t0
  go_enter Try.func16, Try.ntmps16
  go_wp2_with (first
      | (go_at_call 22; refine (circle_any _ _ (by omega) (by omega)).mono ?_; rintro e w' ⟨rfl, rfl⟩))
  go_quiet (fail)
  clear E1
  go_wp2
  · have g1 : IntKind.u64.wrap (gs d t n - t) < pw d := by unfold gs; assumption
    have g2 : pw d / 2 ≤ IntKind.u64.wrap (gs d t n - t) := by unfold gs; assumption
    go_ret
    exact ⟨ret_int (rp1 d t n h0 h1 t0 t1 g1 g2), _, rfl⟩
  · have g2 : IntKind.u64.wrap (gs d t n - t) < pw d / 2 := by unfold gs; assumption
    go_ret
    exact ⟨ret_int (rp2 d t n h0 h1 t0 t1 g2), _, rfl⟩
  · have g1 : pw d ≤ IntKind.u64.wrap (gs d t n - t) := by unfold gs; assumption
    have g2 : pw d / 2 < IntKind.u64.wrap (t - gs d t n) := by unfold gs; assumption
    go_ret
    exact ⟨ret_int (rp3 d t n h0 h1 t0 t1 g1 g2), _, rfl⟩
  · have g1 : pw d ≤ IntKind.u64.wrap (gs d t n - t) := by unfold gs; assumption
    have g2 : IntKind.u64.wrap (t - gs d t n) ≤ pw d / 2 := by unfold gs; assumption
    go_ret
    exact ⟨ret_int (rp4 d t n h0 h1 t0 t1 g1 g2), _, rfl⟩
theorem rpeek_no (d t n : Int) (w : World) (h0 : 1 ≤ d) (h1 : d ≤ 32) (n0 : 0 ≤ n) (n1 : n ≤ 4294967295) :
    Calls Try.prog 16 #[.agg #[.int .i64 d, .int .u64 t, .bool false], .int .u32 n] w fun e w' => e = .returned (.int .u64 (pk d t false n)) ∧ ∃ k, w' = (w.alloc (rb d t false)).drewN k := by
  have p0 := pw_pos d
  have p1 := pw_le32 d h1
  have l0 := (lw_bd d n).1
  have l1 := (lw_bd d n).2
  have m0 : 0 ≤ n % pw d := l0
  have m1 : n % pw d < pw d := l1
  go_enter Try.func16, Try.ntmps16
  go_wp2_with (first
      | (go_at_call 22; refine (circle_any _ _ (by omega) (by omega)).mono ?_; rintro e w' ⟨rfl, rfl⟩))
  go_ret
  exact ⟨ret_int (by unfold pk; rw [if_neg (by simp)]; rfl), 0, rfl⟩
theorem rpeek_any (d t : Int) (g : Bool) (n : Int) (w : World) (h0 : 1 ≤ d) (h1 : d ≤ 32) (t0 : 0 ≤ t) (t1 : t ≤ 18446744073709551615) (n0 : 0 ≤ n) (n1 : n ≤ 4294967295) :
    Calls Try.prog 16 #[.agg #[.int .i64 d, .int .u64 t, .bool g], .int .u32 n] w fun e w' => e = .returned (.int .u64 (pk d t g n)) ∧ ∃ k, w' = (w.alloc (rb d t g)).drewN k := by
  cases g
  · exact rpeek_no d t n w h0 h1 n0 n1
  · exact rpeek_yes d t n w h0 h1 t0 t1 n0 n1
theorem rcut_any (d t : Int) (g : Bool) (x : Int) (w : World) (h0 : 1 ≤ d) (h1 : d ≤ 32) (x0 : 0 ≤ x) (x1 : x ≤ 18446744073709551615) :
    Calls Try.prog 18 #[.agg #[.int .i64 d, .int .u64 t, .bool g], .int .u64 x] w fun e w' => e = .returned (.int .u32 (lw d x)) ∧ w' = w.alloc (rb d t g) := by
  have p0 := pw_pos d
  have p1 := pw_le32 d h1
  have m0 : 0 ≤ x % pw d := (lw_bd d x).1
  have m1 : x % pw d < pw d := (lw_bd d x).2
  go_enter Try.func18, Try.ntmps18
  go_wp2_with (first
      | (go_at_call 22; refine (circle_any _ _ (by omega) (by omega)).mono ?_; rintro e w' ⟨rfl, rfl⟩))
  go_ret
  exact ⟨rfl, rfl⟩
/-- Two blocks made ahead of a call that leaves them alone. -/
theorem two_kept {w w1 : World} {T U : TypeId} {cs ds : Array Value} (hb : Below ((w.alloc (.cells cs T)).alloc (.cells ds U)).heap.size ((w.alloc (.cells cs T)).alloc (.cells ds U)) w1) :
    Blk w1 w.heap.size T cs ∧ Blk w1 (w.heap.size + 1) U ds ∧ Below w.heap.size w w1 := by
  have e : (w.alloc (.cells cs T)).heap.size = w.heap.size + 1 := by simp
  refine ⟨((Blk.new w T cs).alloc _).below hb (by simp; omega), ?_, ?_⟩
  · have h := (Blk.new (w.alloc (.cells cs T)) U ds).below hb (by simp)
    rw [e] at h
    exact h
  · exact (((Below.refl _ _).alloc (Nat.le_refl _) _).alloc (by simp) _).trans (hb.mono (by simp; omega))
set_option maxHeartbeats 1000000 in
theorem rnext_no (d t : Int) (n : Int) (w : World) (h0 : 1 ≤ d) (h1 : d ≤ 32) (t0 : 0 ≤ t) (t1 : t ≤ 18446744073709551615) (n0 : 0 ≤ n) (n1 : n ≤ 4294967295) :
    Calls Try.prog 20 #[.agg #[.int .i64 d, .int .u64 t, .bool false], .int .u32 n] w fun e w' => e = .returned (.tuple #[.agg #[.int .i64 d, .int .u64 (nt d t false n), .bool true], .int .u64 (pk d t false n), .bool true]) ∧ Below w.heap.size w w' := by
  have HP := fun W => rpeek_any d t false n W h0 h1 t0 t1 n0 n1
  rw [nt_no]
  generalize pk d t false n = p at *
  go_enter Try.func20, Try.ntmps20
  go_wp2_with fail
  refine (HP _).mono ?_
  rintro e w1 ⟨rfl, k, hk⟩
  obtain ⟨k0, k1, bl⟩ := two_kept (w := w) (w1 := w1) (by rw [hk]; exact below_drewN ((Below.refl _ _).alloc (Nat.le_refl _) _) _)
  clear hk HP
  have c0 := k0.cell 0
  have c1 := k0.cell 1
  have c2 := k0.cell 2
  have f1 := k0.frozen 1
  have f2 := k0.frozen 2
  have d0 := k1.cell 0
  have d1 := k1.cell 1
  have d2 := k1.cell 2
  have g0 := k1.frozen 0
  have g1 := k1.frozen 1
  have g2 := k1.frozen 2
  simp at c0 c1 c2 d0 d1 d2
  clear k0 k1
  have BL := Lib.hid bl
  have hs := bl.size
  clear bl
  go_wp2
  refine bodyPost_ret (v := .tuple #[.agg #[.int .i64 d, .int .u64 p, .bool true], .int .u64 p, .bool true]) (by simp [results, Try.results20, go_sem, d0, d1, d2]) rfl ⟨rfl, ?_⟩
  repeat (first | exact BL.out | (refine Below.setCell ?_ (by simp) _))
set_option maxHeartbeats 1000000 in
theorem rnext_hi (d t : Int) (n : Int) (w : World) (h0 : 1 ≤ d) (h1 : d ≤ 32) (t0 : 0 ≤ t) (t1 : t ≤ 18446744073709551615) (n0 : 0 ≤ n) (n1 : n ≤ 4294967295) (hc : t < pk d t true n) :
    Calls Try.prog 20 #[.agg #[.int .i64 d, .int .u64 t, .bool true], .int .u32 n] w fun e w' => e = .returned (.tuple #[.agg #[.int .i64 d, .int .u64 (nt d t true n), .bool true], .int .u64 (pk d t true n), .bool false]) ∧ Below w.heap.size w w' := by
  have HP := fun W => rpeek_any d t true n W h0 h1 t0 t1 n0 n1
  rw [nt_hi d t n hc]
  generalize pk d t true n = p at *
  go_enter Try.func20, Try.ntmps20
  go_wp2_with fail
  refine (HP _).mono ?_
  rintro e w1 ⟨rfl, k, hk⟩
  obtain ⟨k0, k1, bl⟩ := two_kept (w := w) (w1 := w1) (by rw [hk]; exact below_drewN ((Below.refl _ _).alloc (Nat.le_refl _) _) _)
  clear hk HP
  have c0 := k0.cell 0
  have c1 := k0.cell 1
  have c2 := k0.cell 2
  have f1 := k0.frozen 1
  have f2 := k0.frozen 2
  have d0 := k1.cell 0
  have d1 := k1.cell 1
  have d2 := k1.cell 2
  have g0 := k1.frozen 0
  have g1 := k1.frozen 1
  have g2 := k1.frozen 2
  simp at c0 c1 c2 d0 d1 d2
  clear k0 k1
  have BL := Lib.hid bl
  have hs := bl.size
  clear bl
  go_wp2
  refine bodyPost_ret (v := .tuple #[.agg #[.int .i64 d, .int .u64 p, .bool true], .int .u64 p, .bool false]) (by simp [results, Try.results20, go_sem, d0, d1, d2]) rfl ⟨rfl, ?_⟩
  repeat (first | exact BL.out | (refine Below.setCell ?_ (by simp) _))
set_option maxHeartbeats 1000000 in
theorem rnext_lo (d t : Int) (n : Int) (w : World) (h0 : 1 ≤ d) (h1 : d ≤ 32) (t0 : 0 ≤ t) (t1 : t ≤ 18446744073709551615) (n0 : 0 ≤ n) (n1 : n ≤ 4294967295) (hc : pk d t true n ≤ t) :
    Calls Try.prog 20 #[.agg #[.int .i64 d, .int .u64 t, .bool true], .int .u32 n] w fun e w' => e = .returned (.tuple #[.agg #[.int .i64 d, .int .u64 (nt d t true n), .bool true], .int .u64 (pk d t true n), .bool false]) ∧ Below w.heap.size w w' := by
  have HP := fun W => rpeek_any d t true n W h0 h1 t0 t1 n0 n1
  rw [nt_lo d t n hc]
  generalize pk d t true n = p at *
  go_enter Try.func20, Try.ntmps20
  go_wp2_with fail
  refine (HP _).mono ?_
  rintro e w1 ⟨rfl, k, hk⟩
  obtain ⟨k0, k1, bl⟩ := two_kept (w := w) (w1 := w1) (by rw [hk]; exact below_drewN ((Below.refl _ _).alloc (Nat.le_refl _) _) _)
  clear hk HP
  have c0 := k0.cell 0
  have c1 := k0.cell 1
  have c2 := k0.cell 2
  have f1 := k0.frozen 1
  have f2 := k0.frozen 2
  have d0 := k1.cell 0
  have d1 := k1.cell 1
  have d2 := k1.cell 2
  have g0 := k1.frozen 0
  have g1 := k1.frozen 1
  have g2 := k1.frozen 2
  simp at c0 c1 c2 d0 d1 d2
  clear k0 k1
  have BL := Lib.hid bl
  have hs := bl.size
  clear bl
  go_wp2
  refine bodyPost_ret (v := .tuple #[.agg #[.int .i64 d, .int .u64 t, .bool true], .int .u64 p, .bool false]) (by simp [results, Try.results20, go_sem, d0, d1, d2]) rfl ⟨rfl, ?_⟩
  repeat (first | exact BL.out | (refine Below.setCell ?_ (by simp) _))
theorem rnext_any (d t : Int) (g : Bool) (n : Int) (w : World) (h0 : 1 ≤ d) (h1 : d ≤ 32) (t0 : 0 ≤ t) (t1 : t ≤ 18446744073709551615) (n0 : 0 ≤ n) (n1 : n ≤ 4294967295) :
    Calls Try.prog 20 #[.agg #[.int .i64 d, .int .u64 t, .bool g], .int .u32 n] w fun e w' => e = .returned (.tuple #[.agg #[.int .i64 d, .int .u64 (nt d t g n), .bool true], .int .u64 (pk d t g n), .bool (!g)]) ∧ Below w.heap.size w w' := by
  cases g
  · exact rnext_no d t n w h0 h1 t0 t1 n0 n1
  · by_cases hc : t < pk d t true n
    · exact rnext_hi d t n w h0 h1 t0 t1 n0 n1 hc
    · exact rnext_lo d t n w h0 h1 t0 t1 n0 n1 (by omega)
/-- What is ahead, and how far, by the reference. -/
theorem btw_ref (d a b : Int) (h1 : d ≤ 32) : (IntKind.u64.wrap (lw d b + pw d) - lw d a) % pw d = btw d a b := by
  have c0 := pw_pos d
  have c1 := pw_le32 d h1
  have x := lw_bd d a
  have l := lw_bd d b
  have e : IntKind.u64.wrap (lw d b + pw d) = lw d b + pw d := by rw [IntKind.wrap_u64]; omega
  rw [e]
  have k := lw_sub d b a (by omega)
  rw [lw_wrap d _ (by omega)] at k
  unfold btw
  rw [k]
  split
  · rw [show lw d b + pw d - lw d a = (lw d b - lw d a) + pw d by omega, Int.add_emod_right]
    exact Int.emod_eq_of_lt (by omega) (by omega)
  · rw [show lw d b + pw d - lw d a = lw d b - lw d a + pw d by omega]
    exact Int.emod_eq_of_lt (by omega) (by omega)
theorem rbetween_yes (d a b : Int) (w : World) (h0 : 1 ≤ d) (h1 : d ≤ 32) (a0 : 0 ≤ a) (a1 : a ≤ 4294967295) (b0 : 0 ≤ b) (b1 : b ≤ 4294967295) :
    Calls Try.prog 11 #[.int .i64 d, .int .u32 a, .int .u32 b] w fun e w' => e = .returned (.int .u32 (btw d a b)) ∧ ∃ k, w' = w.drewN k := by
  have p0 := pw_pos d
  have p1 := pw_le32 d h1
  have x0 := (lw_bd d a).1
  have x1 := (lw_bd d a).2
  have l0 := (lw_bd d b).1
  have l1 := (lw_bd d b).2
  have q0 := (btw_bd d a b).1
  have q1 := (btw_bd d a b).2
  have wa : IntKind.u64.wrap a = a := by rw [IntKind.wrap_u64]; omega
  have wb : IntKind.u64.wrap b = b := by rw [IntKind.wrap_u64]; omega
  have E1 := tmod_lw d a a0
  have E2 := tmod_lw d b b0
  have E3 : IntKind.u64.wrap (lw d b + pw d) = lw d b + pw d := by rw [IntKind.wrap_u64]; omega
  have E4 : IntKind.u64.wrap (lw d b + pw d - lw d a) = lw d b + pw d - lw d a := by rw [IntKind.wrap_u64]; omega
  have E5 : (lw d b + pw d - lw d a).tmod (pw d) = btw d a b := by
    rw [Int.tmod_eq_emod_of_nonneg (by omega)]
    have := btw_ref d a b h1
    rw [E3] at this; exact this
  have E6 : IntKind.u32.wrap (btw d a b) = btw d a b := by rw [IntKind.wrap_u32']; omega
  go_enter Try.func11, Try.ntmps11
  go_wp2_with (first
      | (go_at_call 22; refine (circle_any _ _ (by omega) (by omega)).mono ?_; rintro e w' ⟨rfl, rfl⟩))
  go_quiet (fail)
  clear E1 E2 E3 E4 E5
  go_wp2
  go_ret
  exact ⟨rfl, _, rfl⟩
theorem rbetween_no (d a b : Int) (w : World) (h0 : d < 1 ∨ 32 < d) :
    Calls Try.prog 11 #[.int .i64 d, .int .u32 a, .int .u32 b] w fun e w' => e = .returned (.int .u32 0) ∧ ∃ k, w' = w.drewN k := by
  rcases h0 with h0 | h0
  · go_enter Try.func11, Try.ntmps11
    go_wp2
    go_ret
    exact ⟨rfl, 0, rfl⟩
  · by_cases h2 : d < 1
    · omega
    · go_enter Try.func11, Try.ntmps11
      go_wp2
      go_ret
      exact ⟨rfl, 0, rfl⟩
theorem rahead_yes (d a b : Int) (w : World) (h0 : 1 ≤ d) (h1 : d ≤ 32) (a0 : 0 ≤ a) (a1 : a ≤ 4294967295) (b0 : 0 ≤ b) (b1 : b ≤ 4294967295) :
    Calls Try.prog 9 #[.int .i64 d, .int .u32 a, .int .u32 b] w fun e w' => e = .returned (.bool (ah d a b)) ∧ ∃ k, w' = w.drewN k := by
  have l0 := (btw_bd d b a).1
  have l1 := (btw_bd d b a).2
  have l2 := pw_le32 d h1
  have p0 := pw_pos d
  have hh : pw d / 2 = hf d := rfl
  by_cases hc : 0 < btw d b a
  · go_enter Try.func9, Try.ntmps9
    go_wp2_with (first
      | (go_at_call 11; refine (rbetween_yes _ _ _ _ h0 h1 b0 b1 a0 a1).mono ?_; rintro e w' ⟨rfl, kq, rfl⟩)
      | (go_at_call 22; refine (circle_any _ _ (by omega) (by omega)).mono ?_; rintro e w' ⟨rfl, rfl⟩))
    go_ret
    exact ⟨ret_bool (by unfold ah; simp [hc]), _, rfl⟩
  · go_enter Try.func9, Try.ntmps9
    go_wp2_with (first
      | (go_at_call 11; refine (rbetween_yes _ _ _ _ h0 h1 b0 b1 a0 a1).mono ?_; rintro e w' ⟨rfl, kq, rfl⟩)
      | (go_at_call 22; refine (circle_any _ _ (by omega) (by omega)).mono ?_; rintro e w' ⟨rfl, rfl⟩))
    go_ret
    exact ⟨ret_bool (by unfold ah; simp; try omega), _, rfl⟩
theorem rahead_no (d a b : Int) (w : World) (h0 : d < 1 ∨ 32 < d) :
    Calls Try.prog 9 #[.int .i64 d, .int .u32 a, .int .u32 b] w fun e w' => e = .returned (.bool false) ∧ ∃ k, w' = w.drewN k := by
  go_enter Try.func9, Try.ntmps9
  go_wp2_with (first
      | (go_at_call 11; refine (rbetween_no _ _ _ _ h0).mono ?_; rintro e w' ⟨rfl, kq, rfl⟩))
  go_ret
  exact ⟨rfl, _, rfl⟩
/-- A number brought to 0 to n - 1. -/
def pick (a n : Int) : Int := (wrap64 (a.tmod n + n)).tmod n
theorem pick_bd (a n : Int) (n0 : 1 ≤ n) (n1 : n ≤ 4294967296) : 0 ≤ pick a n ∧ pick a n < n := by
  have h1 := Int.tmod_lt_of_pos a (show 0 < n by omega)
  have h2 : -n < a.tmod n := by
    have := Int.tmod_lt_of_pos (-a) (show 0 < n by omega)
    rw [Int.neg_tmod] at this
    omega
  have e : wrap64 (a.tmod n + n) = a.tmod n + n := by unfold wrap64; omega
  unfold pick
  rw [e]
  exact ⟨Int.tmod_nonneg _ (by omega), Int.tmod_lt_of_pos _ (by omega)⟩
theorem pick_any (a n : Int) (w : World) (n0 : 1 ≤ n) :
    Calls Try.prog 21 #[.int .i64 a, .int .i64 n] w fun e w' => e = .returned (.int .i64 (pick a n)) ∧ w = w' := by
  go_enter Try.func21, Try.ntmps21
  go_wp2
  go_ret
  exact ⟨rfl, rfl⟩
end Go.Proofs.Ytlaapogohgijjaa
