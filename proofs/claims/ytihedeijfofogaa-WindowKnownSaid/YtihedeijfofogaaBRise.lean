/- The window brought up to a number, by a contract. Conditions: numbers of their kinds, a number above the top. -/
import Derived.Test.YtihedeijfofogaaAWin
import Derived.Lib.SliceRun
import Derived.BigFrame
import Derived.LoopTactic
import Derived.Below
import Derived.Deep.Light
namespace Go.Proofs.Ytihedeijfofogaa
open Go.RowKit

theorem clear_bit (x k j : Nat) (hk : k < 64) (hj : j < 64) : (x &&& (18446744073709551615 - 2 ^ k)).testBit j = (x.testBit j && !decide (j = k)) := by
  rw [Nat.testBit_and]
  have h := Nat.testBit_two_pow_sub_succ (x := 2 ^ k) (n := 64) (Nat.pow_lt_pow_right (by omega) hk) j
  rw [show 18446744073709551615 - 2 ^ k = 2 ^ 64 - (2 ^ k + 1) by have := pow_lt64 k hk; omega, h, Nat.testBit_two_pow]
  simp [hj]
  congr 1
  by_cases e : k = j
  · subst e; simp
  · simp [e, Ne.symm e]
theorem set_bit (x k j : Nat) : (x ||| 2 ^ k).testBit j = (x.testBit j || decide (j = k)) := by
  rw [Nat.testBit_or, Nat.testBit_two_pow]
  congr 1
  by_cases e : k = j
  · subst e; simp
  · simp [e, Ne.symm e]
theorem same_digit (n m : Int) : m % 1024 = n % 1024 ↔ (m % 1024 / 64).toNat = (n % 1024 / 64).toNat ∧ (m % 64).toNat = (n % 64).toNat := by omega
theorem S_clear (c : Nat → Nat) (n m : Int) (r k : Nat) (hr : n % 1024 / 64 = r) (hk : (n % 64).toNat = k) :
    S (up c r (c r &&& (18446744073709551615 - 2 ^ k))) m = (S c m && !decide (m % 1024 = n % 1024)) := by
  have hr' : (n % 1024 / 64).toNat = r := by omega
  unfold S up
  by_cases h : (m % 1024 / 64).toNat = r
  · rw [if_pos h, clear_bit _ _ _ (by omega) (by omega), h]
    congr 2
    simp only [same_digit n m, hr', hk, h, true_and]
  · rw [if_neg h]
    rw [show decide (m % 1024 = n % 1024) = false by rw [decide_eq_false_iff_not, same_digit n m]; rintro ⟨a, _⟩; omega]
    simp
theorem S_set (c : Nat → Nat) (n m : Int) (r k : Nat) (hr : n % 1024 / 64 = r) (hk : (n % 64).toNat = k) :
    S (up c r (c r ||| 2 ^ k)) m = (S c m || decide (m % 1024 = n % 1024)) := by
  have hr' : (n % 1024 / 64).toNat = r := by omega
  unfold S up
  by_cases h : (m % 1024 / 64).toNat = r
  · rw [if_pos h, set_bit, h]
    congr 1
    simp only [same_digit n m, hr', hk, h, true_and]
  · rw [if_neg h]
    rw [show decide (m % 1024 = n % 1024) = false by rw [decide_eq_false_iff_not, same_digit n m]; rintro ⟨a, _⟩; omega]
    simp
theorem up_lt (c : Nat → Nat) (hc : ∀ i, c i < 18446744073709551616) (r x : Nat) (hx : x < 18446744073709551616) : ∀ i, up c r x i < 18446744073709551616 := by
  intro i; unfold up; split
  · exact hx
  · exact hc i
theorem and_lt64 (x y : Nat) (h : x < 18446744073709551616) : x &&& y < 18446744073709551616 := Nat.lt_of_le_of_lt Nat.and_le_left h
theorem or_lt64 (x y : Nat) (h : x < 18446744073709551616) (g : y < 18446744073709551616) : x ||| y < 18446744073709551616 := Nat.or_lt_two_pow (n := 64) h g

theorem zero23 (w : World) : (zeroValue 23).run Try.prog w = .ok (.int .u64 0) w := by kernel_rfl

theorem wc_put {w : World} {b : Nat} {sz top lst : Int} {any : Bool} {c : Nat → Nat} {k0 k1 k2 : Int} (hx : Blk w b 53 (wc sz top lst any c k0 k1 k2)) (r x : Nat) (h : r < 16) :
    Blk (w.setCell ⟨b, 1 + r, none⟩ (.int .u64 (x : Nat))) b 53 (wc sz top lst any (up c r x) k0 k1 k2) := by
  rw [← wc_set _ _ _ _ _ _ _ _ r x h]
  exact Blk.set_ hx (1 + r) _
/-- The cells of a window cleared. -/
theorem wc_zero {w : World} {b : Nat} {sz top lst : Int} {any : Bool} {c : Nat → Nat} {k0 k1 k2 : Int} (hx : Blk w b 53 (wc sz top lst any c k0 k1 k2)) :
    Blk (w.setCells b 1 (List.replicate 16 (.int .u64 0))) b 53 (wc sz top lst any (fun _ => 0) k0 k1 k2) := by
  have h0 := wc_put hx 0 0 (by omega)
  have h1 := wc_put h0 1 0 (by omega)
  have h2 := wc_put h1 2 0 (by omega)
  have h3 := wc_put h2 3 0 (by omega)
  have h4 := wc_put h3 4 0 (by omega)
  have h5 := wc_put h4 5 0 (by omega)
  have h6 := wc_put h5 6 0 (by omega)
  have h7 := wc_put h6 7 0 (by omega)
  have h8 := wc_put h7 8 0 (by omega)
  have h9 := wc_put h8 9 0 (by omega)
  have h10 := wc_put h9 10 0 (by omega)
  have h11 := wc_put h10 11 0 (by omega)
  have h12 := wc_put h11 12 0 (by omega)
  have h13 := wc_put h12 13 0 (by omega)
  have h14 := wc_put h13 14 0 (by omega)
  have h15 := wc_put h14 15 0 (by omega)
  exact h15
theorem only_setCells {a : World} {b : Nat} : ∀ (vs : List Value) (o : Nat) (w : World), a.grownBy w (some b) → a.grownBy (w.setCells b o vs) (some b)
  | [], _, _, h => h
  | v :: r, o, _, h => only_setCells r (o + 1) _ (only_setCell (p := ⟨b, o, none⟩) h (.inl rfl) v)
theorem wc_top {w : World} {b : Nat} {sz top lst : Int} {any : Bool} {c : Nat → Nat} {k0 k1 k2 : Int} (hx : Blk w b 53 (wc sz top lst any c k0 k1 k2)) (n : Int) :
    Blk (w.setCell ⟨b, 17, none⟩ (.int .u64 n)) b 53 (wc sz n lst any c k0 k1 k2) := Blk.set_ hx 17 (.int .u64 n)

/-- What rising leaves of a window's digits. -/
def Risen (c c' : Nat → Nat) (top n : Int) : Prop := (∀ i, c' i < 18446744073709551616) ∧ ∀ m : Int, n - 1024 < m → 0 ≤ m → m ≤ n → S c' m = (decide (m ≤ top) && S c m)

set_option maxHeartbeats 400000 in
theorem rise_far (b : Nat) (sz top lst : Int) (any : Bool) (c : Nat → Nat) (k0 k1 k2 n : Int) (w : World) (t0 : 0 ≤ top) (n1 : n ≤ 18446744073709551615) (hn : 1024 ≤ n - top) (hx : Blk w b 53 (wc sz top lst any c k0 k1 k2)) :
    Calls Try.prog 22 #[.pointer (some ⟨b, 0, none⟩), .int .u64 n] w fun e w' => e = .returned (.tuple #[]) ∧ Blk w' b 53 (wc sz n lst any (fun _ => 0) k0 k1 k2) ∧ w.grownBy w' (some b) := by
  have c17 : w.cell? ⟨b, 17, none⟩ = some (.int .u64 top) := Blk.cell hx 17
  have hcl : ∀ ty, (Builtin.clear_ #[22] ty #[.slice (some ⟨b, 1, none⟩) 16 16]).run Try.prog w = .ok (.tuple #[]) (w.setCells b 1 (List.replicate 16 (.int .u64 0))) :=
    fun ty => Lib.run_clear_slice w 22 23 ty (.int .u64 0) Try.underlying22 zero23 rfl rfl b 1 16 16 (by omega) (fun j hj => by rw [Blk.cell hx, wc_row _ _ _ _ _ _ _ _ j hj]; rfl) (fun j hj => Blk.frozen hx _)
  have hz := wc_zero hx
  have hg := only_setCells (List.replicate 16 (.int .u64 0)) 1 w (World.grownBy.refl w (some b))
  obtain ⟨wz, hwz⟩ : ∃ wz, w.setCells b 1 (List.replicate 16 (.int .u64 0)) = wz := ⟨_, rfl⟩
  rw [hwz] at hz hg
  simp only [hwz] at hcl
  clear hwz
  have z17 : wz.cell? ⟨b, 17, none⟩ = some (.int .u64 top) := Blk.cell hz 17
  have zf : wz.frozen? ⟨b, 17, none⟩ = false := Blk.frozen hz 17
  have HZ := Lib.hid hz
  have HG := Lib.hid hg
  clear hx hz hg
  go_enter Try.func22, Try.ntmps22
  go_wp2_with (simp only [hcl])
  clear hcl
  go_loopw [4] (fun v wr => v = .int .u64 (top + 1) ∧ wr = wz) (fun _ _ => 0)
  case atStart => exact ⟨rfl, rfl⟩
  case round =>
    obtain ⟨rfl, rfl⟩ := hrel
    go_wp2_with fail
    go_end0
    exact ⟨rfl, wc_top HZ.out n, only_setCell (p := ⟨b, 17, none⟩) HG.out (.inl rfl) _⟩

theorem risen_zero (c : Nat → Nat) (top n : Int) (hn : 1024 ≤ n - top) : Risen c (fun _ => 0) top n := by
  refine ⟨fun _ => by show 0 < _; omega, fun m h0 h1 h2 => ?_⟩
  rw [show decide (m ≤ top) = false by rw [decide_eq_false_iff_not]; omega]
  simp [S]

theorem risen_start (c : Nat → Nat) (hc : ∀ i, c i < 18446744073709551616) (top n : Int) : (∀ i, c i < 18446744073709551616) ∧ ∀ m : Int, n - 1024 < m → 0 ≤ m → m < top + 1 → S c m = (decide (m ≤ top) && S c m) :=
  ⟨hc, fun m _ _ h => by rw [show decide (m ≤ top) = true by rw [decide_eq_true_iff]; omega]; simp⟩
theorem risen_step (c c' : Nat → Nat) (top n k : Int) (r j : Nat) (hr : k % 1024 / 64 = r) (hk : (k % 64).toNat = j) (h0 : top < k) (h1 : k ≤ n)
    (h : (∀ i, c' i < 18446744073709551616) ∧ ∀ m : Int, n - 1024 < m → 0 ≤ m → m < k → S c' m = (decide (m ≤ top) && S c m)) :
    (∀ i, up c' r (c' r &&& (18446744073709551615 - 2 ^ j)) i < 18446744073709551616) ∧ ∀ m : Int, n - 1024 < m → 0 ≤ m → m < k + 1 → S (up c' r (c' r &&& (18446744073709551615 - 2 ^ j))) m = (decide (m ≤ top) && S c m) := by
  refine ⟨up_lt _ h.1 _ _ (and_lt64 _ _ (h.1 r)), fun m a b g => ?_⟩
  rw [S_clear c' k m r j hr hk]
  by_cases e : m = k
  · subst e
    rw [show decide (m ≤ top) = false by rw [decide_eq_false_iff_not]; omega]
    simp
  · rw [h.2 m a b (by omega), show decide (m % 1024 = k % 1024) = false by rw [decide_eq_false_iff_not]; omega]
    simp

/-- How many rounds are left. -/
def rm (n x : Int) : Nat := if x = 0 then 0 else (n + 1 - x).toNat
theorem rm_lt (n x : Int) (h0 : 0 < x) (h1 : x ≤ n) : rm n (x + 1) < rm n x := by
  unfold rm
  rw [if_neg (by omega), if_neg (by omega)]
  omega
theorem rm_zero (n x : Int) (h0 : 0 < x) (h1 : x ≤ n) : rm n 0 < rm n x := by
  unfold rm
  rw [if_pos rfl, if_neg (by omega)]
  omega
set_option maxHeartbeats 2000000 in
theorem rise_near (b : Nat) (sz top lst : Int) (any : Bool) (c : Nat → Nat) (k0 k1 k2 n : Int) (w : World) (t0 : 0 ≤ top) (n1 : n ≤ 18446744073709551615) (ht : top < n) (hn : n - top < 1024) (hc : ∀ i, c i < 18446744073709551616) (hx : Blk w b 53 (wc sz top lst any c k0 k1 k2)) :
    Calls Try.prog 22 #[.pointer (some ⟨b, 0, none⟩), .int .u64 n] w fun e w' => e = .returned (.tuple #[]) ∧ ∃ c', Risen c c' top n ∧ Blk w' b 53 (wc sz n lst any c' k0 k1 k2) ∧ w.grownBy w' (some b) := by
  have c17 : w.cell? ⟨b, 17, none⟩ = some (.int .u64 top) := Blk.cell hx 17
  have HX := Lib.hid hx
  have HC := Lib.hid (risen_start c hc top n)
  clear hx hc
  go_enter Try.func22, Try.ntmps22
  go_wp2_with fail
  clear c17
  go_loopw [4] (fun v wr => ∃ k k' : Int, ∃ c', top < k ∧ k ≤ n + 1 ∧ (k' = k ∨ n < k ∧ k' = 0) ∧ v = .int .u64 k' ∧ ((∀ i, c' i < 18446744073709551616) ∧ ∀ m : Int, n - 1024 < m → 0 ≤ m → m < k → S c' m = (decide (m ≤ top) && S c m)) ∧ Blk wr b 53 (wc sz top lst any c' k0 k1 k2) ∧ w.grownBy wr (some b)) (fun v _ => rm n (intOf v))
  case atStart => exact ⟨top + 1, top + 1, c, by omega, by omega, .inl rfl, rfl, HC.out, HX.out, World.grownBy.refl w _⟩
  case round =>
    obtain ⟨k, k', c', h0, h1, hk', rfl, hs, hb, hg⟩ := hrel
    clear HX HC
    have c17 : wr.cell? ⟨b, 17, none⟩ = some (.int .u64 top) := Blk.cell hb 17
    have f17 : wr.frozen? ⟨b, 17, none⟩ = false := Blk.frozen hb 17
    have HS := Lib.hid hs
    have HB := Lib.hid hb
    have HG := Lib.hid hg
    clear hs hb hg
    by_cases hk : k ≤ n
    · obtain rfl : k' = k := by omega
      clear hk' f17
      have k0' : 0 ≤ k' := by omega
      have k1' : k' ≤ 18446744073709551615 := by omega
      obtain ⟨r, hr⟩ : ∃ r : Nat, k' % 1024 / 64 = r := ⟨(k' % 1024 / 64).toNat, by omega⟩
      obtain ⟨j, hj⟩ : ∃ j : Nat, (k' % 64).toNat = j := ⟨_, rfl⟩
      have r16 : r < 16 := by omega
      have j64 : j < 64 := by omega
      have HT := risen_step c c' top n k' r j hr hj h0 hk HS.out
      have HD : ∀ W, Calls Try.prog 23 #[.int .u64 k'] W fun e w' => e = .returned (.tuple #[.int .i64 r, .int .u64 ((2 ^ j : Nat) : Int)]) ∧ W = w' := fun W => digit_any k' r j W k0' k1' hr hj
      have hm := pow_lt64 j j64
      have hx := u64_andNot_nat (c' r) (2 ^ j) (HS.out.1 r) hm
      generalize 2 ^ j = m at HT HD hm hx
      generalize c' r &&& (18446744073709551615 - m) = x at HT hx
      have hc := HS.out.1 r
      have cr : wr.cell? ⟨b, 1 + r, none⟩ = some (.int .u64 (c' r : Nat)) := (Blk.cell HB.out (1 + r)).trans (wc_row _ _ _ _ _ _ _ _ r r16)
      have fr : wr.frozen? ⟨b, 1 + r, none⟩ = false := Blk.frozen HB.out _
      have HP := Lib.hid (wc_put HB.out r x r16)
      have HQ := Lib.hid (only_setCell (p := ⟨b, 1 + r, none⟩) HG.out (.inl rfl) (.int .u64 (x : Nat)))
      have HT' := Lib.hid HT
      have r16' : (r : Int) < 16 := by omega
      have r0 : (0 : Int) ≤ (r : Int) := by omega
      clear HT hr hj j64 HS HB HG
      go_wp2_with (go_at_call 23; refine (HD _).mono ?_; rintro e w' ⟨rfl, rfl⟩; clear HD)
      go_region
      clear hx hm hc cr fr
      by_cases hl : k' < 18446744073709551615
      · go_wp2_with fail
        go_roundw
        case rel => exact ⟨k' + 1, k' + 1, up c' r x, by go_light; omega, by go_light; omega, .inl rfl, rfl, HT'.out, HP.out, only_drew HQ.out⟩
        case measure => exact rm_lt n k' (by go_light; omega) hk
      · obtain rfl : k' = 18446744073709551615 := by go_light; omega
        go_wp2_with fail
        go_roundw
        case rel => exact ⟨18446744073709551615 + 1, 0, up c' r x, by go_light; omega, by go_light; omega, .inr ⟨by go_light; omega, rfl⟩, rfl, HT'.out, HP.out, only_drew HQ.out⟩
        case measure => exact rm_zero n 18446744073709551615 (by omega) hk
    · have hex : Risen c c' top n := ⟨HS.out.1, fun m a b g => HS.out.2 m a b (by omega)⟩
      have HE := Lib.hid hex
      clear hex
      rcases hk' with rfl | ⟨_, rfl⟩
      · go_wp2_with fail
        go_end0
        exact ⟨rfl, c', HE.out, wc_top HB.out n, only_setCell (p := ⟨b, 17, none⟩) HG.out (.inl rfl) _⟩
      · go_wp2_with fail
        go_end0
        exact ⟨rfl, c', HE.out, wc_top HB.out n, only_setCell (p := ⟨b, 17, none⟩) HG.out (.inl rfl) _⟩
end Go.Proofs.Ytihedeijfofogaa
