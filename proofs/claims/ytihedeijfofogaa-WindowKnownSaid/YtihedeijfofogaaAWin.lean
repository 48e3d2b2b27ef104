/- The window's own functions that read, each by a contract. Conditions: numbers of their kinds. -/
import Derived.Test.YtihedeijfofogaaWords
import Derived.Laws.BitsAllLaws
namespace Go.Proofs.Ytihedeijfofogaa
open Go.RowKit

theorem pow_lt64 (k : Nat) (h : k < 64) : 2 ^ k < 18446744073709551616 := by
  have := Nat.pow_lt_pow_right (a := 2) (by omega) h
  simpa using this
theorem wrap_pow (k : Nat) (h : k < 64) : IntKind.u64.wrap (2 ^ k) = ((2 ^ k : Nat) : Int) := by
  have := pow_lt64 k h
  generalize e : 2 ^ k = p at this
  rw [show (2 : Int) ^ k = (p : Int) by rw [← e]; simp, IntKind.wrap_u64]
  omega
theorem digit_any (n : Int) (r k : Nat) (w : World) (n0 : 0 ≤ n) (n1 : n ≤ 18446744073709551615) (hr : n % 1024 / 64 = r) (hk : (n % 64).toNat = k) :
    Calls Try.prog 23 #[.int .u64 n] w fun e w' => e = .returned (.tuple #[.int .i64 r, .int .u64 ((2 ^ k : Nat) : Int)]) ∧ w = w' := by
  rw [← hr, ← wrap_pow k (by omega), ← hk]
  clear hr hk
  go_enter Try.func23, Try.ntmps23
  go_wp2_with fail
  go_ret2
  exact ⟨rfl, rfl⟩

/-- The window's cells. -/
def wc (sz top lst : Int) (any : Bool) (c : Nat → Nat) (k0 k1 k2 : Int) : Array Value :=
  #[.int .u64 sz, .int .u64 (c 0 : Nat), .int .u64 (c 1 : Nat), .int .u64 (c 2 : Nat), .int .u64 (c 3 : Nat), .int .u64 (c 4 : Nat), .int .u64 (c 5 : Nat), .int .u64 (c 6 : Nat), .int .u64 (c 7 : Nat), .int .u64 (c 8 : Nat), .int .u64 (c 9 : Nat), .int .u64 (c 10 : Nat), .int .u64 (c 11 : Nat), .int .u64 (c 12 : Nat), .int .u64 (c 13 : Nat), .int .u64 (c 14 : Nat), .int .u64 (c 15 : Nat), .int .u64 top, .int .u64 lst, .bool any, .int .u64 k0, .int .u64 k1, .int .u64 k2]
theorem wc_row (sz top lst : Int) (any : Bool) (c : Nat → Nat) (k0 k1 k2 : Int) (r : Nat) (h : r < 16) : (wc sz top lst any c k0 k1 k2)[1 + r]? = some (.int .u64 (c r : Nat)) := by
  rcases (show r = 0 ∨ r = 1 ∨ r = 2 ∨ r = 3 ∨ r = 4 ∨ r = 5 ∨ r = 6 ∨ r = 7 ∨ r = 8 ∨ r = 9 ∨ r = 10 ∨ r = 11 ∨ r = 12 ∨ r = 13 ∨ r = 14 ∨ r = 15 by omega) with rfl | rfl | rfl | rfl | rfl | rfl | rfl | rfl | rfl | rfl | rfl | rfl | rfl | rfl | rfl | rfl <;> rfl
/-- A row set anew. -/
def up (c : Nat → Nat) (r x : Nat) : Nat → Nat := fun i => if i = r then x else c i
theorem wc_set (sz top lst : Int) (any : Bool) (c : Nat → Nat) (k0 k1 k2 : Int) (r x : Nat) (h : r < 16) : (wc sz top lst any c k0 k1 k2).setIfInBounds (1 + r) (.int .u64 (x : Nat)) = wc sz top lst any (up c r x) k0 k1 k2 := by
  rcases (show r = 0 ∨ r = 1 ∨ r = 2 ∨ r = 3 ∨ r = 4 ∨ r = 5 ∨ r = 6 ∨ r = 7 ∨ r = 8 ∨ r = 9 ∨ r = 10 ∨ r = 11 ∨ r = 12 ∨ r = 13 ∨ r = 14 ∨ r = 15 by omega) with rfl | rfl | rfl | rfl | rfl | rfl | rfl | rfl | rfl | rfl | rfl | rfl | rfl | rfl | rfl | rfl <;> rfl

def bot (sz top : Int) : Int := if top ≤ sz - 1 then 0 else top - (sz - 1)
theorem bottom_any (b : Nat) (sz top lst : Int) (any : Bool) (c : Nat → Nat) (k0 k1 k2 : Int) (w : World) (s0 : 1 ≤ sz) (s1 : sz ≤ 1024) (t0 : 0 ≤ top) (t1 : top ≤ 18446744073709551615) (hx : Blk w b 53 (wc sz top lst any c k0 k1 k2)) :
    Calls Try.prog 24 #[.pointer (some ⟨b, 0, none⟩)] w fun e w' => e = .returned (.int .u64 (bot sz top)) ∧ ∃ k, w' = w.drewN k := by
  have c0 : w.cell? ⟨b, 0, none⟩ = some (.int .u64 sz) := Blk.cell hx 0
  have c17 : w.cell? ⟨b, 17, none⟩ = some (.int .u64 top) := Blk.cell hx 17
  clear hx
  by_cases h : top ≤ sz - 1
  · have e : bot sz top = 0 := by unfold bot; rw [if_pos h]
    rw [e]
    clear e
    go_enter Try.func24, Try.ntmps24
    go_wp2
    go_quiet (fail)
    go_wp2
    go_ret
    exact ⟨ret_int (by omega), _, rfl⟩
  · have e : bot sz top = top - (sz - 1) := by unfold bot; rw [if_neg h]
    rw [e]
    clear e
    go_enter Try.func24, Try.ntmps24
    go_wp2
    go_quiet (fail)
    go_wp2
    go_ret
    exact ⟨rfl, _, rfl⟩

/-- Is a number's digit set? -/
def S (c : Nat → Nat) (n : Int) : Bool := (c (n % 1024 / 64).toNat).testBit (n % 64).toNat
/-- What a number would be. -/
def lk (sz top : Int) (any : Bool) (c : Nat → Nat) (n : Int) : Int := if any = false ∨ top < n then 0 else if n < bot sz top then 2 else if S c n then 1 else 0
theorem and_bit (x k : Nat) : x &&& 2 ^ k = if x.testBit k then 2 ^ k else 0 := by
  rw [Go.nat_bit, Nat.testBit_eq_decide_div_mod_eq]
  rcases Nat.mod_two_eq_zero_or_one (x / 2 ^ k) with h | h <;> simp [h]
theorem and_bit64 (x k : Nat) (hx : x < 18446744073709551616) (hk : k < 64) : Go.bits .and .u64 (x : Int) ((2 ^ k : Nat) : Int) = if x.testBit k then ((2 ^ k : Nat) : Int) else 0 := by
  rw [Go.u64_and_nat _ _ hx (pow_lt64 k hk), and_bit]
  split <;> simp
theorem look_any (b : Nat) (sz top lst : Int) (any : Bool) (c : Nat → Nat) (k0 k1 k2 n : Int) (w : World) (s0 : 1 ≤ sz) (s1 : sz ≤ 1024) (t0 : 0 ≤ top) (t1 : top ≤ 18446744073709551615) (n0 : 0 ≤ n) (n1 : n ≤ 18446744073709551615) (hc : ∀ i, c i < 18446744073709551616) (hx : Blk w b 53 (wc sz top lst any c k0 k1 k2)) :
    Calls Try.prog 12 #[.pointer (some ⟨b, 0, none⟩), .int .u64 n] w fun e w' => e = .returned (.int .i64 (lk sz top any c n)) ∧ ∃ k, w' = w.drewN k := by
  have c17 : w.cell? ⟨b, 17, none⟩ = some (.int .u64 top) := Blk.cell hx 17
  have c19 : w.cell? ⟨b, 19, none⟩ = some (.bool any) := Blk.cell hx 19
  have HX := Lib.hid hx
  clear hx
  cases any
  · have e : lk sz top false c n = 0 := by unfold lk; rw [if_pos (.inl rfl)]
    rw [e]
    clear e
    go_enter Try.func12, Try.ntmps12
    go_wp2_with fail
    go_ret
    exact ⟨rfl, 0, rfl⟩
  by_cases h1 : top < n
  · have e : lk sz top true c n = 0 := by unfold lk; rw [if_pos (.inr h1)]
    rw [e]
    clear e
    go_enter Try.func12, Try.ntmps12
    go_wp2_with fail
    go_ret
    exact ⟨rfl, 0, rfl⟩
  obtain ⟨r, hr⟩ : ∃ r : Nat, n % 1024 / 64 = r := ⟨(n % 1024 / 64).toNat, by omega⟩
  obtain ⟨k, hk⟩ : ∃ k : Nat, (n % 64).toNat = k := ⟨_, rfl⟩
  have r16 : r < 16 := by omega
  have k64 : k < 64 := by omega
  have cr : w.cell? ⟨b, 1 + r, none⟩ = some (.int .u64 (c r : Nat)) := (Blk.cell HX.out (1 + r)).trans (wc_row _ _ _ _ _ _ _ _ r r16)
  have hp := pow_lt64 k k64
  have hb := and_bit64 (c r) k (hc r) k64
  have hs : S c n = (c r).testBit k := by unfold S; rw [hr, hk]; rfl
  have HR := Lib.hid hr
  have HK := Lib.hid hk
  clear hr hk
  obtain ⟨q, hq⟩ : ∃ q : Int, bot sz top = q := ⟨_, rfl⟩
  by_cases h2 : n < q
  · have e : lk sz top true c n = 2 := by unfold lk; rw [if_neg (by simp; omega), if_pos (by omega)]
    rw [e]
    have HB : ∀ W, Blk W b 53 (wc sz top lst true c k0 k1 k2) → Calls Try.prog 24 #[.pointer (some ⟨b, 0, none⟩)] W fun e w' => e = .returned (.int .u64 q) ∧ ∃ k, w' = W.drewN k := fun W hW => by rw [← hq]; exact bottom_any _ _ _ _ _ _ _ _ _ _ s0 s1 t0 t1 hW
    clear e hq hs hb cr
    go_enter Try.func12, Try.ntmps12
    go_wp2_with (go_at_call 24; refine (HB _ HX.out).mono ?_; rintro e w' ⟨rfl, j, rfl⟩; clear HB)
    go_ret
    exact ⟨rfl, _, rfl⟩
  · have HB : ∀ W, Blk W b 53 (wc sz top lst true c k0 k1 k2) → Calls Try.prog 24 #[.pointer (some ⟨b, 0, none⟩)] W fun e w' => e = .returned (.int .u64 q) ∧ ∃ k, w' = W.drewN k := fun W hW => by rw [← hq]; exact bottom_any _ _ _ _ _ _ _ _ _ _ s0 s1 t0 t1 hW
    have e0 : lk sz top true c n = if (c r).testBit k then 1 else 0 := by unfold lk; rw [if_neg (by simp; omega), if_neg (by omega), hs]
    rw [e0]
    clear e0 hq hs
    obtain ⟨m, hm⟩ : ∃ m : Nat, 2 ^ k = m := ⟨_, rfl⟩
    have HD : ∀ W, Calls Try.prog 23 #[.int .u64 n] W fun e w' => e = .returned (.tuple #[.int .i64 r, .int .u64 (m : Nat)]) ∧ W = w' := fun W => by rw [← hm]; exact digit_any n r k W n0 n1 HR.out HK.out
    have m0 : 0 < m := by rw [← hm]; exact Nat.two_pow_pos k
    rw [hm] at hb hp
    clear hm
    have r16' : (r : Int) < 16 := by omega
    have r0 : (0 : Int) ≤ (r : Int) := by omega
    cases hbit : (c r).testBit k
    · rw [hbit, if_neg (by simp)] at hb
      rw [if_neg (by simp)]
      clear hbit
      go_enter Try.func12, Try.ntmps12
      go_wp2_with (first
        | (go_at_call 24; refine (HB _ HX.out).mono ?_; rintro e w' ⟨rfl, j, rfl⟩; clear HB; have cr' := (show (w.drewN j).cell? ⟨b, 1 + r, none⟩ = some (.int .u64 (c r : Nat)) from cr); clear cr)
        | (go_at_call 23; refine (HD _).mono ?_; rintro e w' ⟨rfl, rfl⟩; clear HD))
      go_ret
      exact ⟨rfl, _, rfl⟩
    · rw [hbit, if_pos rfl] at hb
      rw [if_pos rfl]
      clear hbit
      go_enter Try.func12, Try.ntmps12
      go_wp2_with (first
        | (go_at_call 24; refine (HB _ HX.out).mono ?_; rintro e w' ⟨rfl, j, rfl⟩; clear HB; have cr' := (show (w.drewN j).cell? ⟨b, 1 + r, none⟩ = some (.int .u64 (c r : Nat)) from cr); clear cr)
        | (go_at_call 23; refine (HD _).mono ?_; rintro e w' ⟨rfl, rfl⟩; clear HD))
      go_ret
      exact ⟨rfl, _, rfl⟩
end Go.Proofs.Ytihedeijfofogaa
