/- Numbers that come in rising order are made wide ones that rise by just as much: the walk of the law WideRises. Conditions: none but that each argument is of its kind. -/
import Derived.Test.YtlaapogohgijjaaDWorks
namespace Go.Proofs.Ytlaapogohgijjaa
open Go.RowKit

theorem lw_shift (d y t : Int) : lw d (y % pw d - t) = lw d (y - t) := by
  have e := Int.mul_ediv_add_emod y (pw d)
  have e2 : y - t = (y % pw d - t) + pw d * (y / pw d) := by omega
  unfold lw
  rw [e2, Int.add_mul_emod_self_left]
theorem lw_small (d x : Int) (h0 : 0 ≤ x) (h1 : x < pw d) : lw d x = x := Int.emod_eq_of_lt h0 h1
theorem lw_add (d x : Int) : lw d (x + pw d) = lw d x := by unfold lw; rw [Int.add_emod_right]
theorem pk_up (d t n s : Int) (h1 : d ≤ 32) (hs : lw d (n - t) = s) (hlt : s < hf d) (t0 : 0 ≤ t) (s0 : 0 ≤ s) (hb : t + s ≤ 18446744073709551615) : pk d t true n = t + s := by
  unfold pk
  rw [if_pos rfl, lw_wrap d _ (by omega), hs, if_neg (by omega), IntKind.wrap_u64]
  omega
theorem pk_dn (d t n s : Int) (h1 : d ≤ 32) (hs : lw d (n - t) = s) (hlt : hf d ≤ s) (t0 : 0 ≤ t + s - pw d) (hb : t + s ≤ 18446744073709551615) : pk d t true n = t + s - pw d := by
  have c0 := pw_pos d
  unfold pk
  rw [if_pos rfl, lw_wrap d _ (by omega), hs, if_pos (by omega), IntKind.wrap_u64, IntKind.wrap_u64]
  omega
theorem hf_h (d h : Int) (hc : pw d = 2 * h) : hf d = h := by unfold hf; omega
theorem rise_pk (d h : Int) (hc : pw d = 2 * h) (h1 : d ≤ 32) (x s : Int) (x0 : 0 ≤ x) (s0 : 0 ≤ s) (s1 : s < h) (hb : x ≤ 1000000000000) (hh : h ≤ 2147483648) : pk d (2 * h + x) true ((x + s) % (2 * h)) = 2 * h + (x + s) := by
  have e : lw d ((x + s) % (2 * h) - (2 * h + x)) = s := by
    rw [← hc, lw_shift, show x + s - (pw d + x) = s - pw d by omega, ← lw_add, show s - pw d + pw d = s by omega]
    exact lw_small d s s0 (by omega)
  rw [pk_up d _ _ s h1 e (by rw [hf_h d h hc]; exact s1) (by omega) s0 (by omega)]
  omega
theorem late_pk (d h : Int) (hc : pw d = 2 * h) (h1 : d ≤ 32) (x q : Int) (x0 : 0 ≤ x) (q0 : 1 ≤ q) (q1 : q ≤ h) (hb : x ≤ 1000000000000) (hh : h ≤ 2147483648) : pk d (2 * h + x) true ((x + 2 * h - q) % (2 * h)) = 2 * h + x - q := by
  have e : lw d ((x + 2 * h - q) % (2 * h) - (2 * h + x)) = 2 * h - q := by
    rw [← hc, lw_shift, show x + pw d - q - (pw d + x) = (pw d - q) - pw d by omega, ← lw_add, show pw d - q - pw d + pw d = pw d - q by omega]
    exact lw_small d _ (by omega) (by omega)
  rw [pk_dn d _ _ (2 * h - q) h1 e (by rw [hf_h d h hc]; omega) (by omega) (by omega)]
  omega
theorem first_pk (d h : Int) (hc : pw d = 2 * h) (h2 : 1 ≤ h) (x : Int) : pk d 0 false (x % (2 * h)) = x % (2 * h) + 2 * h := by
  have hx := Int.emod_nonneg x (show 2 * h ≠ 0 by omega)
  have hy := Int.emod_lt_of_pos x (show 0 < 2 * h by omega)
  unfold pk
  rw [if_neg (by simp), lw_small d _ hx (by omega), hc]
  omega
theorem cut_h (d h : Int) (hc : pw d = 2 * h) (x y : Int) (he : y = 2 * h + x) : lw d y = x % (2 * h) := by
  subst he
  rw [← hc, show pw d + x = x + pw d by omega, lw_add]; rfl
theorem nt_up {d t n q : Int} (h : pk d t true n = q) (hle : t ≤ q) : nt d t true n = q := by
  rcases Int.lt_or_le t (pk d t true n) with h1 | h1
  · rw [nt_hi d t n h1, h]
  · rw [nt_lo d t n h1]; omega
theorem nt_dn {d t n q : Int} (h : pk d t true n = q) (hle : q ≤ t) : nt d t true n = t := nt_lo d t n (by omega)
theorem cut_lit {d x v : Int} (hv : lw d x = v) (b : Nat) (t : Int) (g : Bool) (w : World) (h0 : 1 ≤ d) (h1 : d ≤ 32) (x0 : 0 ≤ x) (x1 : x ≤ 18446744073709551615) (hx : Ext w b d t g) :
    Calls Try.prog 17 #[.pointer (some ⟨b, 0, none⟩), .int .u64 x] w fun e w' => e = .returned (.int .u32 v) ∧ ∃ k, w' = w.drewN k := by
  subst hv
  exact cut_any b d t g x w h0 h1 x0 x1 hx

set_option maxRecDepth 100000 in
theorem rises_long (a first : Int) (A L : Option Addr) (n c m e : Nat) (w : World) (hl : 60 < n ∨ 60 < m) :
    Calls Try.prog 5 #[.int .i64 a, .int .u32 first, .slice A n c, .slice L m e] w fun e w' => e = .returned (.bool true) ∧ Below w.heap.size w w' := by
  by_cases h : 60 < n
  · go_enter Try.func5, Try.ntmps5
    go_wp2_with (first
      | (go_at_call 12; refine (works_any _).mono ?_; rintro e w' ⟨rfl, hb⟩))
    go_ret
    exact ⟨rfl, hb⟩
  · have h' : 60 < m := by omega
    go_enter Try.func5, Try.ntmps5
    go_wp2_with (first
      | (go_at_call 12; refine (works_any _).mono ?_; rintro e w' ⟨rfl, hb⟩))
    go_ret
    exact ⟨rfl, hb⟩
theorem circle_lit {d v : Int} (hv : pw d = v) (w : World) (h0 : 0 ≤ d) (h1 : d ≤ 32) : Calls Try.prog 22 #[.int .i64 d] w fun e w' => e = .returned (.int .u64 v) ∧ w = w' := by
  subst hv; exact circle_any d w h0 h1
theorem pick_lit {a n p : Int} (hv : pick a n = p) (w : World) (n0 : 1 ≤ n) : Calls Try.prog 21 #[.int .i64 a, .int .i64 n] w fun e w' => e = .returned (.int .i64 p) ∧ w = w' := by
  subst hv; exact pick_any a n w n0
set_option maxHeartbeats 1000000 in
set_option maxRecDepth 100000 in
theorem rises_main (a p h first : Int) (A L : Option Addr) (c e : Nat) (xs ys : List Int) (w : World) (hp : pick a 31 = p) (p0 : 0 ≤ p) (p1 : p ≤ 30) (hc : pw (2 + p) = 2 * h) (h0 : 2 ≤ h) (h1 : h ≤ 2147483648)
    (f0 : 0 ≤ first) (f1 : first ≤ 4294967295) (lx : xs.length ≤ 60) (ly : ys.length ≤ 60) (hX : Nums .u32 w w.heap.size A xs) (hY : Nums .u32 w w.heap.size L ys) :
    Calls Try.prog 5 #[.int .i64 a, .int .u32 first, .slice A xs.length c, .slice L ys.length e] w fun e w' => e = .returned (.bool true) ∧ Below w.heap.size w w' := by
  have HX := Lib.hid hX
  have HY := Lib.hid hY
  have HC := Lib.hid hc
  have HP := Lib.hid hp
  clear hX hY hc hp
  have m0 := Int.emod_nonneg first (show 2 * h ≠ 0 by omega)
  have m1 := Int.emod_lt_of_pos first (show 0 < 2 * h by omega)
  have HF := Lib.hid (first_pk (2 + p) h HC.out (by omega) first)
  generalize hn : first % (2 * h) = n0 at *
  go_enter Try.func5, Try.ntmps5
  go_wp2_with (first
    | (go_at_call 21; refine (pick_lit HP.out _ (by omega)).mono ?_; rintro e w' ⟨rfl, rfl⟩))
  refine (new_yes _ _ (by omega) (by omega)).mono ?_
  rintro e w1 ⟨rfl, hw1⟩
  have hx0 : Ext w1 w.heap.size (2 + p) 0 false := by rw [hw1]; exact heap_alloc_new w _
  have hb0 : Below w.heap.size w w1 := by rw [hw1]; exact (Below.refl _ _).alloc (Nat.le_refl _) _
  clear hw1
  have HE := Lib.hid hx0
  have HB := Lib.hid hb0
  clear hx0 hb0
  go_wp2_with (first
    | (go_at_call 22; refine (circle_lit HC.out _ (by omega) (by omega)).mono ?_; rintro e w' ⟨rfl, rfl⟩))
  refine (next_lit (p := n0 + 2 * h) (t' := n0 + 2 * h) (g' := true) (by omega) (by omega) (by omega) (by omega) (by omega) (by omega) HF.out ((nt_no _ _ _).trans HF.out) rfl _ _ HE.out).mono ?_
  rintro e w2 ⟨rfl, hx2, hg⟩
  have hB2 : Below w.heap.size w w2 := HB.out.grown hg HB.out.size (fun k e => by cases e; exact Nat.le_refl _)
  have HE := Lib.hid hx2
  have HB := Lib.hid hB2
  clear hx2 hB2 hg
  have HV : lw (2 + p) (n0 + 2 * h) = n0 := by
    rw [cut_h (2 + p) h HC.out n0 _ (by omega)]; exact Int.emod_eq_of_lt m0 m1
  have HV := Lib.hid HV
  have hb15 : n0 + 2 * h - n0 = 2 * h := by omega
  go_wp2_with (first
    | (go_at_call 17; refine (cut_lit HV.out _ _ _ _ (by omega) (by omega) (by omega) (by omega) HE.out).mono ?_; rintro e w' ⟨rfl, kq, rfl⟩))
  clear hn
  go_loopw [12, 16] (fun x i wr => ∃ (k : Nat) (n : Int), k ≤ xs.length ∧ x = .int .u64 n ∧ i = .int .i64 k ∧ 0 ≤ n ∧ n ≤ 4294967296 * (k + 1) ∧ Ext wr w.heap.size (2 + p) (2 * h + n) true ∧ Below w.heap.size w wr)
    (fun _ i _ => xs.length - (intOf i).toNat)
  case atStart =>
    refine ⟨0, n0, by omega, rfl, rfl, m0, by omega, ?_, below_drewN HB.out _⟩
    rw [show 2 * h + n0 = n0 + 2 * h by omega]; exact HE.out.drewN _
  case round =>
    obtain ⟨k, n, hk, rfl, rfl, n0', n1', hx, hB⟩ := hrel
    clear HE HB HF HV
    have HE := Lib.hid hx
    have HB := Lib.hid hB
    clear hx hB
    by_cases hlt : k < xs.length
    · obtain ⟨ad, u, rfl, hab, hu, hwf, hcl⟩ := HX.out.at_ hlt
      obtain ⟨u0, u1⟩ := u32_bd hwf
      have hcr : wr.cell? (ad.add k) = some (.int .u32 u) := (HB.out.cell (by rw [block_of_add]; exact hab)).trans hcl
      have s0 := Int.emod_nonneg u (show h ≠ 0 by omega)
      have s1 := Int.emod_lt_of_pos u (show 0 < h by omega)
      clear hu hwf hcl
      generalize hs : u % h = s at *
      have j0 := Int.emod_nonneg (n + s) (show 2 * h ≠ 0 by omega)
      have j1 := Int.emod_lt_of_pos (n + s) (show 0 < 2 * h by omega)
      have HK := Lib.hid (rise_pk (2 + p) h HC.out (by omega) n s n0' s0 s1 (by omega) h1)
      have HV := Lib.hid (cut_h (2 + p) h HC.out (n + s) (2 * h + (n + s)) rfl)
      go_wp2_with fail
      refine (next_lit (p := 2 * h + (n + s)) (t' := 2 * h + (n + s)) (g' := false) (by omega) (by omega) (by omega) (by omega) (by omega) (by omega) HK.out (nt_up HK.out (by omega)) rfl _ _ HE.out).mono ?_
      rintro e w4 ⟨rfl, hx4, hg⟩
      have hB4 : Below w.heap.size w w4 := HB.out.grown hg HB.out.size (fun k e => by cases e; exact Nat.le_refl _)
      clear HE HB hg
      have HE := Lib.hid hx4
      have HB := Lib.hid hB4
      clear hx4 hB4 hcr
      go_wp2_with fail
      refine (top_any _ _ _ _ _ HE.out).mono ?_
      rintro e w5 ⟨rfl, kq, hw5⟩
      have hx5 : Ext w5 w.heap.size (2 + p) (2 * h + (n + s)) true := by rw [hw5]; exact HE.out.drewN _
      have hB5 : Below w.heap.size w w5 := by rw [hw5]; exact below_drewN HB.out _
      clear hw5 HE HB
      have HE := Lib.hid hx5
      have HB := Lib.hid hB5
      clear hx5 hB5
      go_wp2_with fail
      refine (cut_lit HV.out _ _ _ _ (by omega) (by omega) (by omega) (by omega) HE.out).mono ?_
      rintro e w6 ⟨rfl, kq2, hw6⟩
      have hx6 : Ext w6 w.heap.size (2 + p) (2 * h + (n + s)) true := by rw [hw6]; exact HE.out.drewN _
      have hB6 : Below w.heap.size w w6 := by rw [hw6]; exact below_drewN HB.out _
      clear hw6 HE HB
      have HE := Lib.hid hx6
      have HB := Lib.hid hB6
      clear hx6 hB6
      by_cases hly : k < ys.length
      · obtain ⟨al, v, rfl, hal, hv, hvf, hcl⟩ := HY.out.at_ hly
        obtain ⟨v0, v1⟩ := u32_bd hvf
        have hcr : w6.cell? (al.add k) = some (.int .u32 v) := (HB.out.cell (by rw [block_of_add]; exact hal)).trans hcl
        have r0 := Int.emod_nonneg v (show h ≠ 0 by omega)
        have r1 := Int.emod_lt_of_pos v (show 0 < h by omega)
        clear hv hvf hcl
        generalize hr : v % h = r at *
        have i0 := Int.emod_nonneg (n + s + 2 * h - (r + 1)) (show 2 * h ≠ 0 by omega)
        have i1 := Int.emod_lt_of_pos (n + s + 2 * h - (r + 1)) (show 0 < 2 * h by omega)
        have HL := Lib.hid (late_pk (2 + p) h HC.out (by omega) (n + s) (r + 1) (by omega) (by omega) (by omega) (by omega) h1)
        go_wp2_with fail
        refine (next_lit (p := 2 * h + (n + s) - (r + 1)) (t' := 2 * h + (n + s)) (g' := false) (by omega) (by omega) (by omega) (by omega) (by omega) (by omega) HL.out (nt_dn HL.out (by omega)) rfl _ _ HE.out).mono ?_
        rintro e w7 ⟨rfl, hx7, hg⟩
        have hB7 : Below w.heap.size w w7 := HB.out.grown hg HB.out.size (fun k e => by cases e; exact Nat.le_refl _)
        clear HE HB hg
        have HE := Lib.hid hx7
        have HB := Lib.hid hB7
        clear hx7 hB7 hcr
        go_wp2_with fail
        refine (top_any _ _ _ _ _ HE.out).mono ?_
        rintro e w8 ⟨rfl, kq3, hw8⟩
        have hx8 : Ext w8 w.heap.size (2 + p) (2 * h + (n + s)) true := by rw [hw8]; exact HE.out.drewN _
        have hB8 : Below w.heap.size w w8 := by rw [hw8]; exact below_drewN HB.out _
        clear hw8 HE HB
        have HE := Lib.hid hx8
        have HB := Lib.hid hB8
        clear hx8 hB8
        go_wp2
        go_roundw
        case rel => first | exact ⟨k + 1, n + s, by omega, rfl, by go_num, by omega, by omega, HE.out, HB.out⟩ | ((repeat apply Exists.intro); exact ⟨⟨k + 1, n + s, by omega, rfl, by go_num, by omega, by omega, HE.out, HB.out⟩, rfl⟩)
        case measure => simp [intOf]; omega
      · go_wp2
        go_roundw
        case rel => first | exact ⟨k + 1, n + s, by omega, rfl, by go_num, by omega, by omega, HE.out, HB.out⟩ | ((repeat apply Exists.intro); exact ⟨⟨k + 1, n + s, by omega, rfl, by go_num, by omega, by omega, HE.out, HB.out⟩, rfl⟩)
        case measure => simp [intOf]; omega
    · have e : k = xs.length := by omega
      subst e
      go_wp2_with (first
        | (go_at_call 12; refine (works_any _).mono ?_; rintro e w' ⟨rfl, hb⟩))
      go_ret
      exact ⟨rfl, HB.out.trans (hb.mono HB.out.size)⟩
theorem rises_any (a first : Int) (A : Option Addr) (n c : Nat) (xs' : List Int) (L : Option Addr) (m e : Nat) (ys' : List Int) (w : World) (_w0 : (Lit.int .i64 a).wf = true) (w1 : (Lit.int .u32 first).wf = true)
    (w2 : IsRow .u32 w A n c xs') (w3 : IsRow .u32 w L m e ys') :
    Calls Try.prog 5 #[.int .i64 a, .int .u32 first, .slice A n c, .slice L m e] w fun e w' => e = .returned (.bool true) ∧ Below w.heap.size w w' := by
  obtain ⟨f0, f1⟩ := u32_bd w1
  obtain ⟨xs, rfl, _, hX⟩ := nums_of_row w2
  obtain ⟨ys, rfl, _, hY⟩ := nums_of_row w3
  by_cases hl : 60 < xs.length ∨ 60 < ys.length
  · exact rises_long a first A L _ c _ e w hl
  · have hp := pick_bd a 31 (by omega) (by omega)
    have hc := pw_even (2 + pick a 31) (by omega)
    have hlo : 4 ≤ pw (2 + pick a 31) := by
      rw [pw_nat]
      have h := Nat.pow_le_pow_right (n := 2) (by decide) (show 2 ≤ (2 + pick a 31).toNat by omega)
      omega
    have hhi := pw_le32 (2 + pick a 31) (by omega)
    exact rises_main a (pick a 31) (hf (2 + pick a 31)) first A L c e xs ys w rfl hp.1 (by omega) hc (by omega) (by omega) f0 f1 (by omega) (by omega) hX hY
end Go.Proofs.Ytlaapogohgijjaa
