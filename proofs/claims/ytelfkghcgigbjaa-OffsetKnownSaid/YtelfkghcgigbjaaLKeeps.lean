/- How far two numbers are apart is how far those are that are made of them: the walk of the law OffsetKeeps. Conditions: none but that each argument is of its kind. -/
import Derived.Test.YtelfkghcgigbjaaCWorks
namespace Go.Proofs.Ytelfkghcgigbjaa
open Go.RowKit

theorem lw_add_l (d x y : Int) : lw d (lw d x + y) = lw d (x + y) := by
  unfold lw; rw [Int.emod_add_emod]
theorem lw_sub_l (d x y : Int) : lw d (lw d x - y) = lw d (x - y) := by
  rw [Int.sub_eq_add_neg, lw_add_l, ← Int.sub_eq_add_neg]
theorem lw_sub_r (d x y : Int) : lw d (x - lw d y) = lw d (x - y) := by
  have c0 := pw_pos d
  have h := Int.mul_ediv_add_emod y (pw d)
  have e : x - lw d y = (x - y) + pw d * (y / pw d) := by unfold lw; omega
  rw [e]
  unfold lw
  rw [Int.add_mul_emod_self_left]
theorem lw_add_r (d x y : Int) : lw d (x + lw d y) = lw d (x + y) := by
  rw [Int.add_comm, lw_add_l, Int.add_comm]
theorem keep0 (r a : Int) : ad r a 0 = lw r a := by unfold ad; rw [Int.add_zero]
theorem keep1 (r a b : Int) : ad r a (fr r b a) = lw r b := by unfold ad fr; rw [lw_add_r]; congr 1; omega
theorem keep2 (r c q s : Int) : fr r (ad r c s) (ad r q s) = fr r c q := by unfold ad fr; rw [lw_sub_l, lw_sub_r]; congr 1; omega
theorem keep3 (r c s : Int) : fr r (ad r c s) s = lw r c := by unfold ad fr; rw [lw_sub_l]; congr 1; omega
theorem keep4 (r c s : Int) : ad r (fr r c s) s = lw r c := by unfold ad fr; rw [lw_add_l]; congr 1; omega
theorem keep5 (r c q s : Int) : ah r (ad r c s) (ad r q s) = ah r c q := by unfold ah; rw [keep2]
theorem keep6 (r l : Int) : fr r (ad r l 1) l = lw r 1 := by unfold ad fr; rw [lw_sub_l]; congr 1; omega
theorem keep7 (r c l : Int) : nx r (lw r c) l false = lw r c := by unfold nx; simp [lw_idem]
theorem ah_self (r a : Int) : ah r a a = false := by unfold ah fr lw; simp
theorem ah_not_both (r a b : Int) (h0 : 1 ≤ r) (h : ah r a b = true) : ah r b a = false := by
  have c0 := pw_pos r
  have ev := pw_even r h0
  have x := lw_bd r (a - b)
  unfold ah at *
  simp only [Bool.and_eq_true, decide_eq_true_eq] at h
  obtain ⟨h1, h2⟩ := h
  have e : fr r b a = lw r (0 - fr r a b) := by unfold fr; rw [lw_sub_r]; congr 1; omega
  have e2 : lw r (0 - fr r a b) = pw r - fr r a b := by
    have k := lw_lw_sub r 0 (fr r a b)
    have z : lw r 0 = 0 := by unfold lw; simp
    have i : lw r (fr r a b) = fr r a b := by unfold fr; exact lw_idem r _
    rw [z, i, if_neg (by omega)] at k
    omega
  simp only [Bool.and_eq_false_iff, decide_eq_false_iff_not]
  right
  rw [e, e2]
  omega
theorem ah_far (r a q : Int) (h1 : 1 ≤ q) (h2 : q < hf r) (h0 : 1 ≤ r) : ah r (ad r a q) a = true := by
  have ev := pw_even r h0
  have e : fr r (ad r a q) a = q := by
    unfold ad fr
    rw [lw_sub_l, show a + q - a = q by omega]
    exact Int.emod_eq_of_lt (by omega) (by omega)
  unfold ah
  rw [e]
  simp; omega
/-- A number brought to 0 to n - 1. -/
def pick (a n : Int) : Int := (wrap64 (a.tmod n + n)).tmod n
theorem pick_bd (a n : Int) (n0 : 1 ≤ n) (n1 : n ≤ 4294967296) : 0 ≤ pick a n ∧ pick a n < n := by
  have h1 := Int.tmod_lt_of_pos a (show 0 < n by omega)
  have h2 : -n < a.tmod n := by
    have := Int.tmod_lt_of_pos (-a) (show 0 < n by omega)
    rw [Int.neg_tmod] at this
    omega
  have e : wrap64 (a.tmod n + n) = a.tmod n + n := by unfold wrap64; omega
  unfold pick
  rw [e]
  exact ⟨Int.tmod_nonneg _ (by omega), Int.tmod_lt_of_pos _ (by omega)⟩
theorem pick_lit {a n p : Int} (hv : pick a n = p) (w : World) (n0 : 1 ≤ n) : Calls Try.prog 8 #[.int .i64 a, .int .i64 n] w fun e w' => e = .returned (.int .i64 p) ∧ w = w' := by
  subst hv
  go_enter Try.func8, Try.ntmps8
  go_wp2
  go_ret
  exact ⟨rfl, rfl⟩
theorem far_eq {d a b q : Int} (hq : fr d a b = q) (w : World) (h0 : 1 ≤ d) (h1 : d ≤ 63) :
    Calls Try.prog 13 #[.int .i64 d, .int .u64 a, .int .u64 b] w fun e w' => e = .returned (.int .u64 q) ∧ w = w' := by
  subst hq; exact far_yes d a b w h0 h1
theorem ahead_eq {d a b : Int} {q : Bool} (hq : ah d a b = q) (w : World) (h0 : 1 ≤ d) (h1 : d ≤ 63) :
    Calls Try.prog 15 #[.int .i64 d, .int .u64 a, .int .u64 b] w fun e w' => e = .returned (.bool q) ∧ w = w' := by
  subst hq; exact ahead_yes d a b w h0 h1

set_option maxHeartbeats 2000000 in
set_option maxRecDepth 100000 in
theorem keeps_main (r p a b c q : Int) (w : World) (hp : pick r 63 = p) (p0 : 0 ≤ p) (p1 : p ≤ 62) (a0 : 0 ≤ a) (a1 : a ≤ 18446744073709551615) (b0 : 0 ≤ b) (b1 : b ≤ 18446744073709551615)
    (c0 : 0 ≤ c) (c1 : c ≤ 18446744073709551615) (q0 : 0 ≤ q) (q1 : q ≤ 18446744073709551615) :
    Calls Try.prog 3 #[.int .i64 r, .int .u64 a, .int .u64 b, .int .u64 c, .int .u64 q] w fun e w' => e = .returned (.bool true) ∧ Below w.heap.size w w' := by
  have HP := Lib.hid hp
  clear hp
  have hw : IntKind.u64.wrap (2 ^ ((1 + p).toNat - 1)) = hf (1 + p) := by
    have h := wrap_pw p (by omega)
    unfold hf; rw [show 1 + p - 1 = p by omega, show (1 + p).toNat - 1 = p.toNat by omega]; exact h
  have ph : 1 ≤ hf (1 + p) := pw_pos _
  have pl : hf (1 + p) ≤ 9223372036854775808 := pw_le _ (by omega)
  have lc := lw_bd (1 + p) c
  have lp := pw_le (1 + p) (by omega)
  obtain ⟨lc0, lc1⟩ := lc
  go_enter Try.func3, Try.ntmps3
  go_wp2_with fail
  refine (pick_lit HP.out _ (by omega)).mono ?_
  rintro e w' ⟨rfl, rfl⟩
  go_wp2_with fail
  refine (new_yes _ _ _ (by omega) (by omega) c0 c1).mono ?_
  rintro e w1 ⟨rfl, hw1⟩
  have hx1 : Mp w1 w.heap.size (1 + p) 0 (lw (1 + p) c) 0 false := by rw [hw1]; exact Blk.new _ _ _
  have hb1 : Below w.heap.size w w1 := by rw [hw1]; exact (Below.refl _ _).alloc (Nat.le_refl _) _
  clear hw1
  go_wp2_with fail
  refine (map_lit (by omega) (by omega) (keep0 _ _) _ _ _ _ _ hx1).mono ?_
  rintro e w2 ⟨rfl, k2, rfl⟩
  go_wp2_with fail
  refine (cut_yes _ _ _ (by omega) (by omega) a0 a1).mono ?_
  rintro e w' ⟨rfl, rfl⟩
  go_wp2_with fail
  refine (aim_any _ _ _ _ _ _ _ _ _ (by omega) (by omega) (hx1.drewN _)).mono ?_
  rintro e w3 ⟨rfl, hx3, hg⟩
  have hb3 := below_own (below_drewN hb1 _) hg
  clear hx1 hb1 hg
  go_wp2_with fail
  refine (map_lit (by omega) (by omega) (keep1 _ _ _) _ _ _ _ _ hx3).mono ?_
  rintro e w4 ⟨rfl, k4, rfl⟩
  go_wp2_with fail
  refine (cut_yes _ _ _ (by omega) (by omega) b0 b1).mono ?_
  rintro e w' ⟨rfl, rfl⟩
  generalize fr (1 + p) b a = s at *
  go_wp2_with fail
  refine (map_any _ _ _ _ _ _ _ _ (by omega) (by omega) (hx3.drewN _)).mono ?_
  rintro e w5 ⟨rfl, k5, rfl⟩
  go_wp2_with fail
  refine (map_any _ _ _ _ _ _ _ _ (by omega) (by omega) (hx3.drewN _)).mono ?_
  rintro e w6 ⟨rfl, k6, rfl⟩
  go_wp2_with fail
  refine (far_eq (keep2 _ _ _ _) _ (by omega) (by omega)).mono ?_
  rintro e w' ⟨rfl, rfl⟩
  go_wp2_with fail
  refine (far_yes _ _ _ _ (by omega) (by omega)).mono ?_
  rintro e w' ⟨rfl, rfl⟩
  go_wp2_with fail
  refine (map_any _ _ _ _ _ _ _ _ (by omega) (by omega) (hx3.drewN _)).mono ?_
  rintro e w7 ⟨rfl, k7, rfl⟩
  go_wp2_with fail
  refine (back_lit (by omega) (by omega) (keep3 _ _ _) _ _ _ _ _ (hx3.drewN _)).mono ?_
  rintro e w8 ⟨rfl, k8, rfl⟩
  go_wp2_with fail
  refine (cut_yes _ _ _ (by omega) (by omega) c0 c1).mono ?_
  rintro e w' ⟨rfl, rfl⟩
  go_wp2_with fail
  refine (back_any _ _ _ _ _ _ _ _ (by omega) (by omega) (hx3.drewN _)).mono ?_
  rintro e w9 ⟨rfl, k9, rfl⟩
  go_wp2_with fail
  refine (map_lit (by omega) (by omega) (keep4 _ _ _) _ _ _ _ _ (hx3.drewN _)).mono ?_
  rintro e w10 ⟨rfl, k10, rfl⟩
  go_wp2_with fail
  refine (cut_yes _ _ _ (by omega) (by omega) c0 c1).mono ?_
  rintro e w' ⟨rfl, rfl⟩
  go_wp2_with fail
  refine (map_any _ _ _ _ _ _ _ _ (by omega) (by omega) (hx3.drewN _)).mono ?_
  rintro e w11 ⟨rfl, k11, rfl⟩
  go_wp2_with fail
  refine (map_any _ _ _ _ _ _ _ _ (by omega) (by omega) (hx3.drewN _)).mono ?_
  rintro e w12 ⟨rfl, k12, rfl⟩
  go_wp2_with fail
  refine (ahead_eq (keep5 _ _ _ _) _ (by omega) (by omega)).mono ?_
  rintro e w' ⟨rfl, rfl⟩
  go_wp2_with fail
  refine (ahead_yes _ _ _ _ (by omega) (by omega)).mono ?_
  rintro e w' ⟨rfl, rfl⟩
  go_wp2_with fail
  refine (next_lit (by omega) (by omega) (by omega) (by omega) (keep7 _ _ _) _ _ _ (hx3.drewN _)).mono ?_
  rintro e w13 ⟨rfl, hx13, hg⟩
  have hb13 := below_own (below_drewN hb3 _) hg
  clear hx3 hb3 hg
  go_wp2_with fail
  refine (cut_yes _ _ _ (by omega) (by omega) c0 c1).mono ?_
  rintro e w' ⟨rfl, rfl⟩
  go_wp2_with fail
  go_loopw [14, 15] (fun v i wr => ∃ (k : Nat) (l : Int), k ≤ 20 ∧ i = .int .i64 k ∧ v = .int .u64 l ∧ Mp wr w.heap.size (1 + p) s (lw (1 + p) c) l true ∧ Below w.heap.size w wr) (fun _ i _ => 20 - (intOf i).toNat)
  case atStart => exact ⟨0, _, by omega, rfl, rfl, hx13, hb13⟩
  case round =>
    obtain ⟨k, l, hk, rfl, rfl, hx, hb⟩ := hrel
    clear hx13 hb13
    by_cases hlt : k < 20
    · go_wp2_with fail
      refine (next_any _ _ _ _ _ _ _ (by omega) (by omega) (by omega) (by omega) hx).mono ?_
      rintro e w14 ⟨rfl, hx14, hg⟩
      have hb14 := below_own hb hg
      have en : nx (1 + p) (lw (1 + p) c) l true = ad (1 + p) l 1 := by unfold nx; simp
      rw [en] at hx14 ⊢
      clear hx hb hg en
      go_wp2_with fail
      refine (far_eq (keep6 _ _) _ (by omega) (by omega)).mono ?_
      rintro e w' ⟨rfl, rfl⟩
      go_wp2_with fail
      refine (cut_yes _ _ _ (by omega) (by omega) (by omega) (by omega)).mono ?_
      rintro e w' ⟨rfl, rfl⟩
      go_wp2
      go_roundw
      case rel => exact ⟨k + 1, _, by omega, by go_num, rfl, hx14, hb14⟩
      case measure => simp [intOf]; omega
    · go_wp2_with fail
      refine (ahead_yes _ _ _ _ (by omega) (by omega)).mono ?_
      rintro e w' ⟨rfl, rfl⟩
      have hs := ah_self (1 + p) a
      have hn := ah_not_both (1 + p) a b (by omega)
      by_cases h2 : hf (1 + p) < 2
      · cases hab : ah (1 + p) a b
        · clear hn
          go_wp2_with (first
            | (go_at_call 15; refine (ahead_eq hs _ (by omega) (by omega)).mono ?_; rintro e w' ⟨rfl, rfl⟩)
            | (go_at_call 17; refine (works_any _).mono ?_; rintro e w' ⟨rfl, hb'⟩))
          go_ret
          exact ⟨rfl, hb.trans (hb'.mono hb.size)⟩
        · have hba := hn hab
          clear hn
          go_wp2_with fail
          refine (ahead_eq hba _ (by omega) (by omega)).mono ?_
          rintro e w' ⟨rfl, rfl⟩
          go_wp2_with (first
            | (go_at_call 15; refine (ahead_eq hs _ (by omega) (by omega)).mono ?_; rintro e w' ⟨rfl, rfl⟩)
            | (go_at_call 17; refine (works_any _).mono ?_; rintro e w' ⟨rfl, hb'⟩))
          go_ret
          exact ⟨rfl, hb.trans (hb'.mono hb.size)⟩
      · have d0 := Int.emod_nonneg q (show hf (1 + p) - 1 ≠ 0 by omega)
        have d1 := Int.emod_lt_of_pos q (show 0 < hf (1 + p) - 1 by omega)
        have ha := ah_far (1 + p) a (1 + q % (hf (1 + p) - 1)) (by omega) (by omega) (by omega)
        have ha' := ah_not_both (1 + p) _ _ (by omega) ha
        have HA := Lib.hid ha
        have HA' := Lib.hid ha'
        clear ha ha'
        cases hab : ah (1 + p) a b
        · clear hn
          go_wp2_with fail
          refine (ahead_eq hs _ (by omega) (by omega)).mono ?_
          rintro e w' ⟨rfl, rfl⟩
          go_wp2_with fail
          refine (add_yes _ _ _ _ (by omega) (by omega)).mono ?_
          rintro e w' ⟨rfl, rfl⟩
          go_wp2_with fail
          refine (ahead_eq HA.out _ (by omega) (by omega)).mono ?_
          rintro e w' ⟨rfl, rfl⟩
          go_wp2_with fail
          refine (add_yes _ _ _ _ (by omega) (by omega)).mono ?_
          rintro e w' ⟨rfl, rfl⟩
          go_wp2_with fail
          refine (ahead_eq HA'.out _ (by omega) (by omega)).mono ?_
          rintro e w' ⟨rfl, rfl⟩
          go_wp2_with (first
            | (go_at_call 17; refine (works_any _).mono ?_; rintro e w' ⟨rfl, hb'⟩))
          go_ret
          exact ⟨rfl, hb.trans (hb'.mono hb.size)⟩
        · have hba := hn hab
          clear hn
          go_wp2_with fail
          refine (ahead_eq hba _ (by omega) (by omega)).mono ?_
          rintro e w' ⟨rfl, rfl⟩
          go_wp2_with fail
          refine (ahead_eq hs _ (by omega) (by omega)).mono ?_
          rintro e w' ⟨rfl, rfl⟩
          go_wp2_with fail
          refine (add_yes _ _ _ _ (by omega) (by omega)).mono ?_
          rintro e w' ⟨rfl, rfl⟩
          go_wp2_with fail
          refine (ahead_eq HA.out _ (by omega) (by omega)).mono ?_
          rintro e w' ⟨rfl, rfl⟩
          go_wp2_with fail
          refine (add_yes _ _ _ _ (by omega) (by omega)).mono ?_
          rintro e w' ⟨rfl, rfl⟩
          go_wp2_with fail
          refine (ahead_eq HA'.out _ (by omega) (by omega)).mono ?_
          rintro e w' ⟨rfl, rfl⟩
          go_wp2_with (first
            | (go_at_call 17; refine (works_any _).mono ?_; rintro e w' ⟨rfl, hb'⟩))
          go_ret
          exact ⟨rfl, hb.trans (hb'.mono hb.size)⟩
theorem keeps_any (r a b c q : Int) (w : World) (_w0 : (Lit.int .i64 r).wf = true) (w1 : (Lit.int .u64 a).wf = true) (w2 : (Lit.int .u64 b).wf = true) (w3 : (Lit.int .u64 c).wf = true) (w4 : (Lit.int .u64 q).wf = true) :
    Calls Try.prog 3 #[.int .i64 r, .int .u64 a, .int .u64 b, .int .u64 c, .int .u64 q] w fun e w' => e = .returned (.bool true) ∧ Below w.heap.size w w' := by
  obtain ⟨a0, a1⟩ := u64_bd w1
  obtain ⟨b0, b1⟩ := u64_bd w2
  obtain ⟨c0, c1⟩ := u64_bd w3
  obtain ⟨q0, q1⟩ := u64_bd w4
  have hp := pick_bd r 63 (by omega) (by omega)
  exact keeps_main r (pick r 63) a b c q w rfl hp.1 (by omega) a0 a1 b0 b1 c0 c1 q0 q1
end Go.Proofs.Ytelfkghcgigbjaa
