/- Any numbers, on any ring, are cut, added, told apart, and compared, as the document says: the walk of the law OffsetRings. Conditions: none but that each argument is of its kind. -/
import Derived.Test.YtelfkghcgigbjaaFLatest
namespace Go.Proofs.Ytelfkghcgigbjaa
open Go.RowKit

theorem rings_long (r a b : Int) (A : Option Addr) (len cap : Nat) (w : World) (hl : 20 < len) :
    Calls Try.prog 6 #[.int .i64 r, .int .u64 a, .int .u64 b, .slice A len cap] w fun e w' => e = .returned (.bool true) ∧ Below w.heap.size w w' := by
  go_enter Try.func6, Try.ntmps6
  go_wp2_with (first
    | (go_at_call 17; refine (works_any _).mono ?_; rintro e w' ⟨rfl, hb⟩))
  go_ret
  exact ⟨rfl, hb⟩
set_option maxHeartbeats 1000000 in
theorem rings_no (r a b : Int) (A : Option Addr) (len cap : Nat) (w : World) (hl : len ≤ 20) (h0 : r < 1 ∨ 63 < r) :
    Calls Try.prog 6 #[.int .i64 r, .int .u64 a, .int .u64 b, .slice A len cap] w fun e w' => e = .returned (.bool true) ∧ Below w.heap.size w w' := by
  have HL : ∀ W : World, Calls Try.prog 27 #[.int .i64 r, .slice A len cap] W fun e w' => e = .returned (.tuple #[.int .u64 0, .bool false]) ∧ Below W.heap.size W w' := by
    intro W
    rcases Nat.eq_zero_or_pos len with h | h
    · subst h; exact latest_none r A cap W
    · exact latest_no r A len cap W h h0
  go_enter Try.func6, Try.ntmps6
  go_wp2_with fail
  refine (HL _).mono ?_
  rintro e w1 ⟨rfl, hb1⟩
  clear HL
  go_wp2_with (first
    | (go_at_call 28; refine (rlatest_no _ _ _ _ _ h0).mono ?_; rintro e w' ⟨rfl, rfl⟩)
    | (go_at_call 29; refine (right_no _ _ h0).mono ?_; rintro e w' ⟨rfl, rfl⟩)
    | (go_at_call 19; refine (rright_no _ _ h0).mono ?_; rintro e w' ⟨rfl, rfl⟩)
    | (go_at_call 11; refine (cut_no _ _ _ h0).mono ?_; rintro e w' ⟨rfl, rfl⟩)
    | (go_at_call 30; refine (rcut_no _ _ _ h0).mono ?_; rintro e w' ⟨rfl, rfl⟩)
    | (go_at_call 18; refine (add_no _ _ _ _ h0).mono ?_; rintro e w' ⟨rfl, rfl⟩)
    | (go_at_call 21; refine (radd_no _ _ _ _ h0).mono ?_; rintro e w' ⟨rfl, kq, rfl⟩)
    | (go_at_call 13; refine (far_no _ _ _ _ h0).mono ?_; rintro e w' ⟨rfl, rfl⟩)
    | (go_at_call 20; refine (rfar_no _ _ _ _ h0).mono ?_; rintro e w' ⟨rfl, rfl⟩)
    | (go_at_call 15; refine (ahead_no _ _ _ _ h0).mono ?_; rintro e w' ⟨rfl, rfl⟩)
    | (go_at_call 31; refine (rahead_no _ _ _ _ h0).mono ?_; rintro e w' ⟨rfl, rfl⟩)
    | (go_at_call 17; refine (works_any _).mono ?_; rintro e w' ⟨rfl, hb⟩))
  go_ret
  exact ⟨rfl, (below_drewN hb1 _).trans (hb.mono hb1.size)⟩
set_option maxHeartbeats 1000000 in
theorem rings_yes (r a b : Int) (A : Option Addr) (cap : Nat) (xs : List Int) (w : World) (hl : xs.length ≤ 20) (h0 : 1 ≤ r) (h1 : r ≤ 63) (a0 : 0 ≤ a) (a1 : a ≤ 18446744073709551615) (b0 : 0 ≤ b) (b1 : b ≤ 18446744073709551615)
    (hN : Nums .u64 w w.heap.size A xs) :
    Calls Try.prog 6 #[.int .i64 r, .int .u64 a, .int .u64 b, .slice A xs.length cap] w fun e w' => e = .returned (.bool true) ∧ Below w.heap.size w w' := by
  obtain ⟨v, g, HL, HR⟩ : ∃ (v : Int) (g : Bool), (Calls Try.prog 27 #[.int .i64 r, .slice A xs.length cap] w fun e w' => e = .returned (.tuple #[.int .u64 v, .bool g]) ∧ Below w.heap.size w w') ∧
      (∀ W : World, Below w.heap.size w W → Calls Try.prog 28 #[.int .i64 r, .slice A xs.length cap] W fun e w' => e = .returned (.tuple #[.int .u64 v, .bool g]) ∧ W = w') := by
    rcases Nat.eq_zero_or_pos xs.length with h | h
    · refine ⟨0, false, ?_, fun W _ => ?_⟩
      · rw [h]; exact latest_none r A cap w
      · rw [h]; exact rlatest_none r A cap W h0 h1
    · refine ⟨lat r xs, true, latest_yes r A cap xs w h h0 h1 hN, fun W hb => rlatest_yes r A cap xs W h h0 h1 ?_⟩
      have k := hN.below hb
      exact ⟨k.1, k.2.1, fun hn => by
        obtain ⟨ad', e, hbl, hc⟩ := k.2.2 hn
        exact ⟨ad', e, Nat.lt_of_lt_of_le hbl hb.size, hc⟩⟩
  clear hN
  go_enter Try.func6, Try.ntmps6
  go_wp2_with fail
  refine HL.mono ?_
  rintro e w1 ⟨rfl, hb1⟩
  clear HL
  go_wp2_with fail
  refine (HR _ hb1).mono ?_
  rintro e w' ⟨rfl, rfl⟩
  clear HR
  go_wp2_with (first
    | (go_at_call 29; refine (right_yes _ _ h0 h1).mono ?_; rintro e w' ⟨rfl, rfl⟩)
    | (go_at_call 19; refine (rright_yes _ _ h0 h1).mono ?_; rintro e w' ⟨rfl, rfl⟩)
    | (go_at_call 11; refine (cut_yes _ _ _ h0 h1 a0 a1).mono ?_; rintro e w' ⟨rfl, rfl⟩)
    | (go_at_call 30; refine (rcut_yes _ _ _ h0 h1 a0 a1).mono ?_; rintro e w' ⟨rfl, rfl⟩)
    | (go_at_call 18; refine (add_yes _ _ _ _ h0 h1).mono ?_; rintro e w' ⟨rfl, rfl⟩)
    | (go_at_call 21; refine (radd_yes _ _ _ _ h0 h1 a0 b0).mono ?_; rintro e w' ⟨rfl, kq, rfl⟩)
    | (go_at_call 13; refine (far_yes _ _ _ _ h0 h1).mono ?_; rintro e w' ⟨rfl, rfl⟩)
    | (go_at_call 20; refine (rfar_yes _ _ _ _ h0 h1 a0 a1 b0 b1).mono ?_; rintro e w' ⟨rfl, rfl⟩)
    | (go_at_call 15; refine (ahead_yes _ _ _ _ h0 h1).mono ?_; rintro e w' ⟨rfl, rfl⟩)
    | (go_at_call 31; refine (rahead_yes _ _ _ _ h0 h1 a0 a1 b0 b1).mono ?_; rintro e w' ⟨rfl, rfl⟩)
    | (go_at_call 17; refine (works_any _).mono ?_; rintro e w' ⟨rfl, hb⟩))
  go_ret
  exact ⟨rfl, (below_drewN hb1 _).trans (hb.mono hb1.size)⟩
theorem rings_any (r a b : Int) (A : Option Addr) (len cap : Nat) (zs : List Int) (w : World) (_w0 : (Lit.int .i64 r).wf = true) (w1 : (Lit.int .u64 a).wf = true) (w2 : (Lit.int .u64 b).wf = true) (w3 : IsRow .u64 w A len cap zs) :
    Calls Try.prog 6 #[.int .i64 r, .int .u64 a, .int .u64 b, .slice A len cap] w fun e w' => e = .returned (.bool true) ∧ Below w.heap.size w w' := by
  obtain ⟨a0, a1⟩ := u64_bd w1
  obtain ⟨b0, b1⟩ := u64_bd w2
  obtain ⟨xs, rfl, _, hN⟩ := nums_of_row w3
  by_cases hl : 20 < xs.length
  · exact rings_long r a b A _ cap w hl
  · by_cases h : r < 1 ∨ 63 < r
    · exact rings_no r a b A _ cap w (by omega) h
    · exact rings_yes r a b A cap xs w (by omega) (by omega) (by omega) a0 a1 b0 b1 hN
end Go.Proofs.Ytelfkghcgigbjaa
