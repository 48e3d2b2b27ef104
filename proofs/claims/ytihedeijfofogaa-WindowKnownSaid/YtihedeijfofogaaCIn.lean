/- A number that comes, by a contract. Conditions: numbers of their kinds. -/
import Derived.Test.YtihedeijfofogaaBRise
namespace Go.Proofs.Ytihedeijfofogaa
open Go.RowKit

theorem rise_any (b : Nat) (sz top lst : Int) (any : Bool) (c : Nat → Nat) (k0 k1 k2 n : Int) (w : World) (t0 : 0 ≤ top) (n1 : n ≤ 18446744073709551615) (ht : top < n) (hc : ∀ i, c i < 18446744073709551616) (hx : Blk w b 53 (wc sz top lst any c k0 k1 k2)) :
    Calls Try.prog 22 #[.pointer (some ⟨b, 0, none⟩), .int .u64 n] w fun e w' => e = .returned (.tuple #[]) ∧ ∃ c', Risen c c' top n ∧ Blk w' b 53 (wc sz n lst any c' k0 k1 k2) ∧ w.grownBy w' (some b) := by
  by_cases h : 1024 ≤ n - top
  · exact (rise_far b sz top lst any c k0 k1 k2 n w t0 n1 h hx).mono fun e w' g => ⟨g.1, _, risen_zero c top n h, g.2⟩
  · exact rise_near b sz top lst any c k0 k1 k2 n w t0 n1 ht (by omega) hc hx
theorem only_one (w : World) (b i : Nat) (u : Value) : w.grownBy (w.setCell ⟨b, i, none⟩ u) (some b) := only_setCell (p := ⟨b, i, none⟩) (World.grownBy.refl w _) (.inl rfl) _
/-- A count that rose, by its place. -/
def cu (s : Int) (i : Int) (k : Int) : Int := if s = i then k + 1 else k

set_option maxHeartbeats 2000000 in
theorem in_old (b : Nat) (sz top lst : Int) (any : Bool) (c : Nat → Nat) (k0 k1 k2 n s : Int) (w : World) (s0 : 1 ≤ sz) (s1 : sz ≤ 1024) (t0 : 0 ≤ top) (t1 : top ≤ 18446744073709551615) (n0 : 0 ≤ n) (n1 : n ≤ 18446744073709551615) (hc : ∀ i, c i < 18446744073709551616)
    (a0 : 0 ≤ k1 ∧ k1 ≤ 1000) (a1 : 0 ≤ k2 ∧ k2 ≤ 1000) (hs : lk sz top any c n = s) (hs' : s = 1 ∨ s = 2) (hx : Blk w b 53 (wc sz top lst any c k0 k1 k2)) :
    Calls Try.prog 10 #[.pointer (some ⟨b, 0, none⟩), .int .u64 n] w fun e w' => e = .returned (.int .i64 s) ∧ Blk w' b 53 (wc sz top lst any c k0 (cu s 1 k1) (cu s 2 k2)) ∧ w.grownBy w' (some b) := by
  have HL : Calls Try.prog 12 #[.pointer (some ⟨b, 0, none⟩), .int .u64 n] w fun e w' => e = .returned (.int .i64 s) ∧ ∃ k, w' = w.drewN k := by
    rw [← hs]; exact look_any b sz top lst any c k0 k1 k2 n w s0 s1 t0 t1 n0 n1 hc hx
  have HX := Lib.hid hx
  clear hs hc hx
  rcases hs' with rfl | rfl
  · go_enter Try.func10, Try.ntmps10
    go_wp2_with (go_at_call 12; refine HL.mono ?_; rintro e w' ⟨rfl, j, rfl⟩; clear HL; have c21 : w.cell? ⟨b, 21, none⟩ = some (.int .u64 k1) := Blk.cell HX.out 21; have f21 : w.frozen? ⟨b, 21, none⟩ = false := Blk.frozen HX.out 21)
    go_region
    go_wp2_with fail
    go_ret
    refine ⟨rfl, ?_, ?_⟩
    · exact Blk.set_ HX.out 21 (.int .u64 (k1 + 1))
    · exact only_setCell (p := ⟨b, 21, none⟩) (only_drewN (World.grownBy.refl w _) (j + 1)) (.inl rfl) _
  · go_enter Try.func10, Try.ntmps10
    go_wp2_with (go_at_call 12; refine HL.mono ?_; rintro e w' ⟨rfl, j, rfl⟩; clear HL; have c21 : w.cell? ⟨b, 22, none⟩ = some (.int .u64 k2) := Blk.cell HX.out 22; have f21 : w.frozen? ⟨b, 22, none⟩ = false := Blk.frozen HX.out 22)
    go_region
    go_wp2_with fail
    go_ret
    refine ⟨rfl, ?_, ?_⟩
    · exact Blk.set_ HX.out 22 (.int .u64 (k2 + 1))
    · exact only_setCell (p := ⟨b, 22, none⟩) (only_drewN (World.grownBy.refl w _) (j + 1)) (.inl rfl) _

/-- What a new number leaves of a window's digits. -/
def Came (c c' : Nat → Nat) (top top' n : Int) (any : Bool) : Prop := (∀ i, c' i < 18446744073709551616) ∧ ∀ m : Int, top' - 1024 < m → 0 ≤ m → m ≤ top' → S c' m = (decide (m = n) || (any && decide (m ≤ top) && S c m))

theorem came_first (c : Nat → Nat) (hc : ∀ i, c i < 18446744073709551616) (hz : ∀ m, S c m = false) (top n : Int) (r k : Nat) (hr : n % 1024 / 64 = r) (hk : (n % 64).toNat = k) (k64 : k < 64) : Came c (up c r (c r ||| 2 ^ k)) top n n false := by
  refine ⟨up_lt _ hc _ _ (or_lt64 _ _ (hc r) (pow_lt64 k k64)), fun m a b g => ?_⟩
  rw [S_set c n m r k hr hk, hz]
  simp only [Bool.false_and, Bool.or_false, Bool.false_or]
  congr 1
  simp only [eq_iff_iff]
  omega

set_option maxHeartbeats 2000000 in
theorem in_first (b : Nat) (sz top lst : Int) (c : Nat → Nat) (k0 k1 k2 n : Int) (w : World) (s0 : 1 ≤ sz) (s1 : sz ≤ 1024) (t0 : 0 ≤ top) (t1 : top ≤ 18446744073709551615) (n0 : 0 ≤ n) (n1 : n ≤ 18446744073709551615) (hc : ∀ i, c i < 18446744073709551616) (hz : ∀ m, S c m = false)
    (a0 : 0 ≤ k0 ∧ k0 ≤ 1000) (hx : Blk w b 53 (wc sz top lst false c k0 k1 k2)) :
    Calls Try.prog 10 #[.pointer (some ⟨b, 0, none⟩), .int .u64 n] w fun e w' => e = .returned (.int .i64 0) ∧ ∃ c', Came c c' top n n false ∧ Blk w' b 53 (wc sz n n true c' (k0 + 1) k1 k2) ∧ w.grownBy w' (some b) := by
  have HL : Calls Try.prog 12 #[.pointer (some ⟨b, 0, none⟩), .int .u64 n] w fun e w' => e = .returned (.int .i64 0) ∧ ∃ k, w' = w.drewN k :=
    (look_any b sz top lst false c k0 k1 k2 n w s0 s1 t0 t1 n0 n1 hc hx).mono fun e w' g => by rw [show lk sz top false c n = 0 by simp [lk]] at g; exact g
  have HX := Lib.hid hx
  clear hx
  go_enter Try.func10, Try.ntmps10
  go_wp2_with (go_at_call 12; refine HL.mono ?_; rintro e w' ⟨rfl, j, rfl⟩; clear HL; have c20 : w.cell? ⟨b, 20, none⟩ = some (.int .u64 k0) := Blk.cell HX.out 20; have f20 : w.frozen? ⟨b, 20, none⟩ = false := Blk.frozen HX.out 20)
  go_region
  obtain ⟨w1, hw1⟩ : ∃ w1, (w.drewN j).drew.setCell ⟨b, 20, none⟩ (.int .u64 (k0 + 1)) = w1 := ⟨_, rfl⟩
  have hb1 : Blk w1 b 53 (wc sz top lst false c (k0 + 1) k1 k2) := by rw [← hw1]; exact Blk.set_ (HX.out.drewN j) 20 (.int .u64 (k0 + 1))
  have hg1 : w.grownBy w1 (some b) := by rw [← hw1]; exact only_setCell (p := ⟨b, 20, none⟩) (only_drew (only_drewN (World.grownBy.refl w _) j)) (.inl rfl) _
  first | rw [hw1] | (simp only [show (w.drewN (j + 1)).setCell ⟨b, 20, none⟩ (.int .u64 (k0 + 1)) = w1 from hw1])
  have HB := Lib.hid hb1
  have HG := Lib.hid hg1
  have c17 : w1.cell? ⟨b, 17, none⟩ = some (.int .u64 top) := Blk.cell hb1 17
  have c18 : w1.cell? ⟨b, 18, none⟩ = some (.int .u64 lst) := Blk.cell hb1 18
  have c19 : w1.cell? ⟨b, 19, none⟩ = some (.bool false) := Blk.cell hb1 19
  have f17 : w1.frozen? ⟨b, 17, none⟩ = false := Blk.frozen hb1 17
  have f18 : w1.frozen? ⟨b, 18, none⟩ = false := Blk.frozen hb1 18
  have f19 : w1.frozen? ⟨b, 19, none⟩ = false := Blk.frozen hb1 19
  clear hw1 hb1 hg1 c20 f20 HX
  go_wp2_with fail
  obtain ⟨w2, hw2⟩ : ∃ w2, (((w1.setCell ⟨b, 17, none⟩ (.int .u64 n)).setCell ⟨b, 18, none⟩ (.int .u64 n)).setCell ⟨b, 19, none⟩ (.bool true)).setCell ⟨b, 18, none⟩ (.int .u64 n) = w2 := ⟨_, rfl⟩
  rw [hw2]
  have hb2 : Blk w2 b 53 (wc sz n n true c (k0 + 1) k1 k2) := by rw [← hw2]; exact Blk.set_ (Blk.set_ (Blk.set_ (Blk.set_ HB.out 17 (.int .u64 n)) 18 (.int .u64 n)) 19 (.bool true)) 18 (.int .u64 n)
  have hg2 : w.grownBy w2 (some b) := by rw [← hw2]; exact only_setCell (p := ⟨b, 18, none⟩) (only_setCell (p := ⟨b, 19, none⟩) (only_setCell (p := ⟨b, 18, none⟩) (only_setCell (p := ⟨b, 17, none⟩) HG.out (.inl rfl) _) (.inl rfl) _) (.inl rfl) _) (.inl rfl) _
  clear hw2 HB HG c17 c18 c19 f17 f18 f19
  obtain ⟨r, hr⟩ : ∃ r : Nat, n % 1024 / 64 = r := ⟨(n % 1024 / 64).toNat, by omega⟩
  obtain ⟨q, hq⟩ : ∃ q : Nat, (n % 64).toNat = q := ⟨_, rfl⟩
  have r16 : r < 16 := by omega
  have q64 : q < 64 := by omega
  have HT := Lib.hid (came_first c hc hz top n r q hr hq q64)
  refine (digit_any n r q _ n0 n1 hr hq).mono ?_
  rintro e w' ⟨rfl, rfl⟩
  have hm := pow_lt64 q q64
  have hx := u64_or_nat (c r) (2 ^ q) (hc r) hm
  generalize 2 ^ q = m at HT hm hx ⊢
  generalize c r ||| m = x at HT hx
  have hcr := hc r
  have cr : w2.cell? ⟨b, 1 + r, none⟩ = some (.int .u64 (c r : Nat)) := (Blk.cell hb2 (1 + r)).trans (wc_row _ _ _ _ _ _ _ _ r r16)
  have fr : w2.frozen? ⟨b, 1 + r, none⟩ = false := Blk.frozen hb2 _
  have HB := Lib.hid (wc_put hb2 r x r16)
  have HG := Lib.hid (only_setCell (p := ⟨b, 1 + r, none⟩) hg2 (.inl rfl) (.int .u64 (x : Nat)))
  have r16' : (r : Int) < 16 := by omega
  have r0 : (0 : Int) ≤ (r : Int) := by omega
  clear hr hq q64 hb2 hg2 hc hz
  go_wp2_with fail
  go_region
  go_wp2_with fail
  go_ret
  exact ⟨rfl, up c r x, HT.out, HB.out, only_drew HG.out⟩

theorem S_after (c : Nat → Nat) (n m : Int) (r k : Nat) (hr : n % 1024 / 64 = r) (hk : (n % 64).toNat = k) : S (up c r (c r ||| 2 ^ k)) m = (S c m || decide (m % 1024 = n % 1024)) := S_set c n m r k hr hk
theorem came_low (c : Nat → Nat) (hc : ∀ i, c i < 18446744073709551616) (top n : Int) (r k : Nat) (hr : n % 1024 / 64 = r) (hk : (n % 64).toNat = k) (k64 : k < 64) (h0 : top - 1024 < n) (h1 : n ≤ top) : Came c (up c r (c r ||| 2 ^ k)) top top n true := by
  refine ⟨up_lt _ hc _ _ (or_lt64 _ _ (hc r) (pow_lt64 k k64)), fun m a b g => ?_⟩
  rw [S_set c n m r k hr hk, Bool.or_comm]
  simp only [g, decide_true, Bool.true_and]
  congr 1
  simp only [decide_eq_decide]
  omega
theorem came_high (c c' : Nat → Nat) (top n : Int) (hR : Risen c c' top n) (r k : Nat) (hr : n % 1024 / 64 = r) (hk : (n % 64).toNat = k) (k64 : k < 64) : Came c (up c' r (c' r ||| 2 ^ k)) top n n true := by
  refine ⟨up_lt _ hR.1 _ _ (or_lt64 _ _ (hR.1 r) (pow_lt64 k k64)), fun m a b g => ?_⟩
  rw [S_set c' n m r k hr hk, Bool.or_comm, hR.2 m a b g]
  simp only [Bool.true_and]
  congr 1
  simp only [decide_eq_decide]
  omega
theorem lk_new_low (sz top n : Int) (c : Nat → Nat) (s1 : sz ≤ 1024) (h : lk sz top true c n = 0) (h1 : n ≤ top) (n0 : 0 ≤ n) : top - 1024 < n := by
  unfold lk at h
  rw [if_neg (by simp; omega)] at h
  split at h
  · cases h
  · rename_i h2
    unfold bot at h2
    split at h2 <;> omega

set_option maxHeartbeats 2000000 in
theorem in_low (b : Nat) (sz top lst : Int) (c : Nat → Nat) (k0 k1 k2 n : Int) (w : World) (s0 : 1 ≤ sz) (s1 : sz ≤ 1024) (t0 : 0 ≤ top) (t1 : top ≤ 18446744073709551615) (n0 : 0 ≤ n) (n1 : n ≤ 18446744073709551615) (hc : ∀ i, c i < 18446744073709551616)
    (hs : lk sz top true c n = 0) (hn : n ≤ top) (a0 : 0 ≤ k0 ∧ k0 ≤ 1000) (hx : Blk w b 53 (wc sz top lst true c k0 k1 k2)) :
    Calls Try.prog 10 #[.pointer (some ⟨b, 0, none⟩), .int .u64 n] w fun e w' => e = .returned (.int .i64 0) ∧ ∃ c', Came c c' top top n true ∧ Blk w' b 53 (wc sz top (min lst n) true c' (k0 + 1) k1 k2) ∧ w.grownBy w' (some b) := by
  have h0 := lk_new_low sz top n c s1 hs hn n0
  have HL : Calls Try.prog 12 #[.pointer (some ⟨b, 0, none⟩), .int .u64 n] w fun e w' => e = .returned (.int .i64 0) ∧ ∃ k, w' = w.drewN k :=
    (look_any b sz top lst true c k0 k1 k2 n w s0 s1 t0 t1 n0 n1 hc hx).mono fun e w' g => by rw [hs] at g; exact g
  have HX := Lib.hid hx
  obtain ⟨r, hr⟩ : ∃ r : Nat, n % 1024 / 64 = r := ⟨(n % 1024 / 64).toNat, by omega⟩
  obtain ⟨q, hq⟩ : ∃ q : Nat, (n % 64).toNat = q := ⟨_, rfl⟩
  have r16 : r < 16 := by omega
  have q64 : q < 64 := by omega
  have HT := Lib.hid (came_low c hc top n r q hr hq q64 h0 hn)
  have HD := fun W => digit_any n r q W n0 n1 hr hq
  have hm := pow_lt64 q q64
  have hxx := u64_or_nat (c r) (2 ^ q) (hc r) hm
  generalize 2 ^ q = m at HT HD hm hxx ⊢
  generalize c r ||| m = x at HT hxx
  have hcr := hc r
  have r16' : (r : Int) < 16 := by omega
  have r0 : (0 : Int) ≤ (r : Int) := by omega
  have HMin : ∃ l' : Int, min lst n = l' ∧ (lst ≤ n ∧ l' = lst ∨ n < lst ∧ l' = n) := ⟨_, rfl, by omega⟩
  obtain ⟨l', hl', hl⟩ := HMin
  rw [hl']
  clear hr hq q64 hc hs hx hl'
  go_enter Try.func10, Try.ntmps10
  go_wp2_with (go_at_call 12; refine HL.mono ?_; rintro e w' ⟨rfl, j, rfl⟩; clear HL; have c20 : w.cell? ⟨b, 20, none⟩ = some (.int .u64 k0) := Blk.cell HX.out 20; have f20 : w.frozen? ⟨b, 20, none⟩ = false := Blk.frozen HX.out 20)
  go_region
  obtain ⟨w1, hw1⟩ : ∃ w1, (w.drewN j).drew.setCell ⟨b, 20, none⟩ (.int .u64 (k0 + 1)) = w1 := ⟨_, rfl⟩
  have hb1 : Blk w1 b 53 (wc sz top lst true c (k0 + 1) k1 k2) := by rw [← hw1]; exact Blk.set_ (HX.out.drewN j) 20 (.int .u64 (k0 + 1))
  have hg1 : w.grownBy w1 (some b) := by rw [← hw1]; exact only_setCell (p := ⟨b, 20, none⟩) (only_drew (only_drewN (World.grownBy.refl w _) j)) (.inl rfl) _
  first | rw [hw1] | (simp only [show (w.drewN (j + 1)).setCell ⟨b, 20, none⟩ (.int .u64 (k0 + 1)) = w1 from hw1])
  have HB := Lib.hid hb1
  have HG := Lib.hid hg1
  have c17 : w1.cell? ⟨b, 17, none⟩ = some (.int .u64 top) := Blk.cell hb1 17
  have c18 : w1.cell? ⟨b, 18, none⟩ = some (.int .u64 lst) := Blk.cell hb1 18
  have c19 : w1.cell? ⟨b, 19, none⟩ = some (.bool true) := Blk.cell hb1 19
  have f18 : w1.frozen? ⟨b, 18, none⟩ = false := Blk.frozen hb1 18
  clear hw1 hb1 hg1 c20 f20 HX
  rcases hl with ⟨hl, rfl⟩ | ⟨hl, rfl⟩
  · go_wp2_with fail
    obtain ⟨w2, hw2⟩ : ∃ w2, w1.setCell ⟨b, 18, none⟩ (.int .u64 l') = w2 := ⟨_, rfl⟩
    rw [hw2]
    have hb2 : Blk w2 b 53 (wc sz top l' true c (k0 + 1) k1 k2) := by rw [← hw2]; exact Blk.set_ HB.out 18 (.int .u64 l')
    have hg2 : w.grownBy w2 (some b) := by rw [← hw2]; exact only_setCell (p := ⟨b, 18, none⟩) HG.out (.inl rfl) _
    clear hw2 HB HG c17 c18 c19 f18
    have cr : w2.cell? ⟨b, 1 + r, none⟩ = some (.int .u64 (c r : Nat)) := (Blk.cell hb2 (1 + r)).trans (wc_row _ _ _ _ _ _ _ _ r r16)
    have fr : w2.frozen? ⟨b, 1 + r, none⟩ = false := Blk.frozen hb2 _
    have HB := Lib.hid (wc_put hb2 r x r16)
    have HG := Lib.hid (only_setCell (p := ⟨b, 1 + r, none⟩) hg2 (.inl rfl) (.int .u64 (x : Nat)))
    clear hb2 hg2
    refine (HD _).mono ?_
    rintro e w' ⟨rfl, rfl⟩
    clear HD
    go_wp2_with fail
    go_region
    go_wp2_with fail
    go_ret
    exact ⟨rfl, up c r x, HT.out, HB.out, only_drew HG.out⟩
  · go_wp2_with fail
    obtain ⟨w2, hw2⟩ : ∃ w2, w1.setCell ⟨b, 18, none⟩ (.int .u64 l') = w2 := ⟨_, rfl⟩
    rw [hw2]
    have hb2 : Blk w2 b 53 (wc sz top l' true c (k0 + 1) k1 k2) := by rw [← hw2]; exact Blk.set_ HB.out 18 (.int .u64 l')
    have hg2 : w.grownBy w2 (some b) := by rw [← hw2]; exact only_setCell (p := ⟨b, 18, none⟩) HG.out (.inl rfl) _
    clear hw2 HB HG c17 c18 c19 f18
    have cr : w2.cell? ⟨b, 1 + r, none⟩ = some (.int .u64 (c r : Nat)) := (Blk.cell hb2 (1 + r)).trans (wc_row _ _ _ _ _ _ _ _ r r16)
    have fr : w2.frozen? ⟨b, 1 + r, none⟩ = false := Blk.frozen hb2 _
    have HB := Lib.hid (wc_put hb2 r x r16)
    have HG := Lib.hid (only_setCell (p := ⟨b, 1 + r, none⟩) hg2 (.inl rfl) (.int .u64 (x : Nat)))
    clear hb2 hg2
    refine (HD _).mono ?_
    rintro e w' ⟨rfl, rfl⟩
    clear HD
    go_wp2_with fail
    go_region
    go_wp2_with fail
    go_ret
    exact ⟨rfl, up c r x, HT.out, HB.out, only_drew HG.out⟩

set_option maxHeartbeats 2000000 in
theorem in_high (b : Nat) (sz top lst : Int) (c : Nat → Nat) (k0 k1 k2 n : Int) (w : World) (s0 : 1 ≤ sz) (s1 : sz ≤ 1024) (t0 : 0 ≤ top) (t1 : top ≤ 18446744073709551615) (n0 : 0 ≤ n) (n1 : n ≤ 18446744073709551615) (hc : ∀ i, c i < 18446744073709551616)
    (hn : top < n) (hl : lst ≤ top) (a0 : 0 ≤ k0 ∧ k0 ≤ 1000) (hx : Blk w b 53 (wc sz top lst true c k0 k1 k2)) :
    Calls Try.prog 10 #[.pointer (some ⟨b, 0, none⟩), .int .u64 n] w fun e w' => e = .returned (.int .i64 0) ∧ ∃ c', Came c c' top n n true ∧ Blk w' b 53 (wc sz n lst true c' (k0 + 1) k1 k2) ∧ w.grownBy w' (some b) := by
  have HL : Calls Try.prog 12 #[.pointer (some ⟨b, 0, none⟩), .int .u64 n] w fun e w' => e = .returned (.int .i64 0) ∧ ∃ k, w' = w.drewN k :=
    (look_any b sz top lst true c k0 k1 k2 n w s0 s1 t0 t1 n0 n1 hc hx).mono fun e w' g => by rw [show lk sz top true c n = 0 by unfold lk; rw [if_pos (.inr hn)]] at g; exact g
  have HR := fun W hW => rise_any b sz top lst true c (k0 + 1) k1 k2 n W t0 n1 hn hc hW
  have HX := Lib.hid hx
  obtain ⟨r, hr⟩ : ∃ r : Nat, n % 1024 / 64 = r := ⟨(n % 1024 / 64).toNat, by omega⟩
  obtain ⟨q, hq⟩ : ∃ q : Nat, (n % 64).toNat = q := ⟨_, rfl⟩
  have r16 : r < 16 := by omega
  have q64 : q < 64 := by omega
  have HT := fun c' hR => came_high c c' top n hR r q hr hq q64
  have HD := fun W => digit_any n r q W n0 n1 hr hq
  have hm := pow_lt64 q q64
  have HO := fun x hx => u64_or_nat x (2 ^ q) hx hm
  have r16' : (r : Int) < 16 := by omega
  have r0 : (0 : Int) ≤ (r : Int) := by omega
  generalize 2 ^ q = m at HT HD hm HO ⊢
  have HT := Lib.hid HT
  have HD := Lib.hid HD
  have HO := Lib.hid HO
  have HR := Lib.hid HR
  clear hr hq q64 hc hx
  go_enter Try.func10, Try.ntmps10
  go_wp2_with (go_at_call 12; refine HL.mono ?_; rintro e w' ⟨rfl, j, rfl⟩; clear HL; have c20 : w.cell? ⟨b, 20, none⟩ = some (.int .u64 k0) := Blk.cell HX.out 20; have f20 : w.frozen? ⟨b, 20, none⟩ = false := Blk.frozen HX.out 20)
  go_region
  obtain ⟨w1, hw1⟩ : ∃ w1, (w.drewN j).drew.setCell ⟨b, 20, none⟩ (.int .u64 (k0 + 1)) = w1 := ⟨_, rfl⟩
  have hb1 : Blk w1 b 53 (wc sz top lst true c (k0 + 1) k1 k2) := by rw [← hw1]; exact Blk.set_ (HX.out.drewN j) 20 (.int .u64 (k0 + 1))
  have hg1 : w.grownBy w1 (some b) := by rw [← hw1]; exact only_setCell (p := ⟨b, 20, none⟩) (only_drew (only_drewN (World.grownBy.refl w _) j)) (.inl rfl) _
  first | rw [hw1] | (simp only [show (w.drewN (j + 1)).setCell ⟨b, 20, none⟩ (.int .u64 (k0 + 1)) = w1 from hw1])
  have HB := Lib.hid hb1
  have HG := Lib.hid hg1
  have c17 : w1.cell? ⟨b, 17, none⟩ = some (.int .u64 top) := Blk.cell hb1 17
  have c19 : w1.cell? ⟨b, 19, none⟩ = some (.bool true) := Blk.cell hb1 19
  clear hw1 hb1 hg1 c20 f20 HX
  go_wp2_with fail
  refine (HR.out w1 HB.out).mono ?_
  rintro e w2 ⟨rfl, c', hR, hb2, hg2⟩
  have HG2 := Lib.hid (World.grownBy.trans HG.out hg2)
  have HB2 := Lib.hid hb2
  have hcr := hR.1 r
  have HT := Lib.hid (HT.out c' hR)
  have hxx := HO.out _ hcr
  obtain ⟨x, hxe⟩ : ∃ x, c' r ||| m = x := ⟨_, rfl⟩
  rw [hxe] at HT hxx
  have c18 : w2.cell? ⟨b, 18, none⟩ = some (.int .u64 lst) := Blk.cell hb2 18
  have f18 : w2.frozen? ⟨b, 18, none⟩ = false := Blk.frozen hb2 18
  clear HG HB HR HO c17 c19 hR hb2 hg2
  have hll : lst ≤ n := by omega
  go_wp2_with fail
  obtain ⟨w3, hw3⟩ : ∃ w3, w2.setCell ⟨b, 18, none⟩ (.int .u64 lst) = w3 := ⟨_, rfl⟩
  rw [hw3]
  have hb2 : Blk w3 b 53 (wc sz n lst true c' (k0 + 1) k1 k2) := by rw [← hw3]; exact Blk.set_ HB2.out 18 (.int .u64 lst)
  have hg2 : w.grownBy w3 (some b) := by rw [← hw3]; exact only_setCell (p := ⟨b, 18, none⟩) HG2.out (.inl rfl) _
  clear hw3 HB2 HG2 c18 f18
  have cr : w3.cell? ⟨b, 1 + r, none⟩ = some (.int .u64 (c' r : Nat)) := (Blk.cell hb2 (1 + r)).trans (wc_row _ _ _ _ _ _ _ _ r r16)
  have fr : w3.frozen? ⟨b, 1 + r, none⟩ = false := Blk.frozen hb2 _
  have HB := Lib.hid (wc_put hb2 r x r16)
  have HG := Lib.hid (only_setCell (p := ⟨b, 1 + r, none⟩) hg2 (.inl rfl) (.int .u64 (x : Nat)))
  clear hb2 hg2
  refine (HD.out _).mono ?_
  rintro e w' ⟨rfl, rfl⟩
  clear HD
  go_wp2_with fail
  go_region
  go_wp2_with fail
  go_ret
  exact ⟨rfl, up c' r x, HT.out, HB.out, only_drew HG.out⟩
end Go.Proofs.Ytihedeijfofogaa
