/- The chapter's examples, and a window that is not there. Conditions: none. -/
import Derived.Test.YtihedeijfofogaaIRef
namespace Go.Proofs.Ytihedeijfofogaa
open Go.RowKit Go.Shelf

/-- A window whose counts are small. -/
def Wn (m : Int) (w : World) (b : Nat) (sz : Int) (l : List Int) : Prop := ∃ k0 k1 k2 : Int, (0 ≤ k0 ∧ k0 ≤ m) ∧ (0 ≤ k1 ∧ k1 ≤ m) ∧ (0 ≤ k2 ∧ k2 ≤ m) ∧ Win w b sz l k0 k1 k2
theorem cu_bd {s i k m : Int} (h : 0 ≤ k ∧ k ≤ m) : 0 ≤ cu s i k ∧ cu s i k ≤ m + 1 := by unfold cu; split <;> omega
theorem in_wn (b : Nat) (sz m : Int) (l : List Int) (n : Int) (w : World) (s0 : 1 ≤ sz) (s1 : sz ≤ 1024) (n0 : 0 ≤ n) (n1 : n ≤ 18446744073709551615) (hm : m ≤ 1000) (hw : Wn m w b sz l) :
    Calls Try.prog 10 #[.pointer (some ⟨b, 0, none⟩), .int .u64 n] w fun e w' => e = .returned (.int .i64 (lookL sz l n)) ∧ Wn (m + 1) w' b sz (inL sz l n) ∧ w.grownBy w' (some b) := by
  obtain ⟨k0, k1, k2, a0, a1, a2, hw⟩ := hw
  exact (in_win b sz l k0 k1 k2 n w s0 s1 n0 n1 ⟨a0.1, by omega⟩ ⟨a1.1, by omega⟩ ⟨a2.1, by omega⟩ hw).mono fun e w' g => ⟨g.1, ⟨_, _, _, cu_bd a0, cu_bd a1, cu_bd a2, g.2.1⟩, g.2.2⟩
theorem below_only {w0 w w' : World} {b : Nat} (hb : b ≤ w0.heap.size) (h : Below b w0 w) (g : w.grownBy w' (some b)) : Below b w0 w' := h.grown g (Nat.le_trans hb h.size) fun j e => by cases e; exact Nat.le_refl _
theorem in_k (b : Nat) (m : Int) (l l' : List Int) (n s : Int) (w0 w : World) (n0 : 0 ≤ n ∧ n ≤ 100) (hm : m ≤ 1000) (hs : lookL 4 l n = s) (hl : inL 4 l n = l') (hw : Wn m w b 4 l) (hb0 : b ≤ w0.heap.size) (hb : Below b w0 w) :
    Calls Try.prog 10 #[.pointer (some ⟨b, 0, none⟩), .int .u64 n] w fun e w' => e = .returned (.int .i64 s) ∧ Hid (Wn (m + 1) w' b 4 l') ∧ Hid (Below b w0 w') := by
  subst hs; subst hl
  exact (in_wn b 4 m l n w (by omega) (by omega) n0.1 (by omega) hm hw).mono fun e w' g => ⟨g.1, Lib.hid g.2.1, Lib.hid (below_only hb0 hb g.2.2)⟩
theorem wn_new {w : World} {b : Nat} {sz : Int} (h : Win w b sz [] 0 0 0) : Wn 0 w b sz [] := ⟨0, 0, 0, by omega, by omega, by omega, h⟩
theorem missing_wn (b : Nat) (sz m : Int) (l : List Int) (w : World) (s0 : 1 ≤ sz) (s1 : sz ≤ 1024) (hw : Wn m w b sz l) :
    Calls Try.prog 13 #[.pointer (some ⟨b, 0, none⟩)] w fun e W' => ∃ A cap, e = .returned (.slice A (missL sz l).length cap) ∧ Nums .u64 W' W'.heap.size A (missL sz l) ∧ (∀ ad, A = some ad → w.heap.size ≤ ad.block ∧ ∀ i, i < (missL sz l).length → W'.frozen? (ad.add i) = false) ∧ Below w.heap.size w W' := by
  obtain ⟨k0, k1, k2, -, -, -, hw⟩ := hw
  have hn := hw.nums
  refine (missing_win b sz l k0 k1 k2 w s0 s1 hw).mono ?_
  rintro e W' ⟨v, rfl, ho, hnil, hb⟩
  have hwf : ∀ x ∈ missL sz l, (Lit.int .u64 x).wf = true := by
    intro x hx
    unfold missL at hx
    split at hx
    · cases hx
    · unfold gap at hx
      obtain ⟨hx, -⟩ := List.mem_filter.1 hx
      obtain ⟨i, hi, rfl⟩ := List.mem_map.1 hx
      rw [List.mem_range] at hi
      have h0 : 0 ≤ lstL l := lstL_ge fun x hx => (hn x hx).1
      have h1 : topL l ≤ 18446744073709551615 := topL_le (by omega) fun x hx => (hn x hx).2
      exact wf_u64 (by omega) (by omega)
  rcases ho.2 with ⟨rfl, h0⟩ | ⟨g, cap, cur, rfl, hg, hgb, -, -, -, -⟩
  · have h0' : missL sz l = [] := List.eq_nil_of_length_eq_zero h0
    rw [h0']
    exact ⟨none, 0, rfl, ⟨by simp, by simp, fun h => absurd h (by simp)⟩, (fun ad e => by cases e), hb⟩
  · obtain ⟨-, -, hN⟩ := nums_of_own ho hwf
    refine ⟨_, cap, rfl, hN, fun ad e => ?_, hb⟩
    cases e
    exact ⟨hg, fun i _ => by rw [Addr.add_lit]; simp [World.frozen?, hgb]⟩

theorem nums_two (w : World) (x y : Int) (hx : 0 ≤ x ∧ x ≤ 100) (hy : 0 ≤ y ∧ y ≤ 100) : Nums .u64 (w.alloc (.cells #[.int .u64 x, .int .u64 y] 23)) (w.heap.size + 1) (some ⟨w.heap.size, 0, none⟩) [x, y] := by
  refine ⟨by simp [maxLen], ?_, fun _ => ⟨_, rfl, by simp, fun j hj => ?_⟩⟩
  · intro n hn
    simp at hn
    rcases hn with rfl | rfl
    · exact wf_u64 hx.1 (by omega)
    · exact wf_u64 hy.1 (by omega)
  · rw [Addr.add_lit, Blk.cell (Blk.new w 23 _)]
    have : j = 0 ∨ j = 1 := by simp at hj; omega
    rcases this with rfl | rfl <;> rfl

set_option maxRecDepth 100000 in
set_option maxHeartbeats 2000000 in
theorem works_any (w : World) : Calls Try.prog 7 #[] w fun e w' => e = .returned (.bool true) ∧ Below w.heap.size w w' := by
  go_enter Try.func7, Try.ntmps7
  go_wp2_with fail
  refine (of_win 4 w (by omega) (by omega)).mono ?_
  rintro e w0 ⟨rfl, hw0, hb0⟩
  have HW0 := Lib.hid (wn_new hw0)
  have HB0 := Lib.hid hb0
  clear hw0 hb0
  go_wp2_with fail
  refine (in_k _ 0 [] [10] 10 0 w _ (by omega) (by omega) (by decide) (by decide) HW0.out (Nat.le_refl _) HB0.out).mono ?_
  rintro e w1 ⟨rfl, HW1, HB1⟩
  clear HW0 HB0
  go_wp2_with fail
  refine (in_k _ 1 [10] [10, 12] 12 0 w _ (by omega) (by omega) (by decide) (by decide) HW1.out (Nat.le_refl _) HB1.out).mono ?_
  rintro e w2 ⟨rfl, HW2, HB2⟩
  clear HW1 HB1
  go_wp2_with fail
  refine (in_k _ 2 [10, 12] [10, 12] 10 1 w _ (by omega) (by omega) (by decide) (by decide) HW2.out (Nat.le_refl _) HB2.out).mono ?_
  rintro e w3 ⟨rfl, HW3, HB3⟩
  clear HW2 HB2
  go_wp2_with fail
  refine (in_k _ 3 [10, 12] [10, 12, 11] 11 0 w _ (by omega) (by omega) (by decide) (by decide) HW3.out (Nat.le_refl _) HB3.out).mono ?_
  rintro e w4 ⟨rfl, HW4, HB4⟩
  clear HW3 HB3
  go_wp2_with fail
  refine (in_k _ 4 [10, 12, 11] [10, 12, 11] 8 2 w _ (by omega) (by omega) (by decide) (by decide) HW4.out (Nat.le_refl _) HB4.out).mono ?_
  rintro e w5 ⟨rfl, HW5, HB5⟩
  clear HW4 HB4
  go_wp2_with fail
  refine (in_k _ 5 [10, 12, 11] [10, 12, 11, 9] 9 0 w _ (by omega) (by omega) (by decide) (by decide) HW5.out (Nat.le_refl _) HB5.out).mono ?_
  rintro e w6 ⟨rfl, HW6, HB6⟩
  clear HW5 HB5
  go_wp2_with fail
  refine (in_k _ 6 [10, 12, 11, 9] [10, 12, 11, 9, 20] 20 0 w _ (by omega) (by omega) (by decide) (by decide) HW6.out (Nat.le_refl _) HB6.out).mono ?_
  rintro e w7 ⟨rfl, HW7, HB7⟩
  clear HW6 HB6
  go_wp2_with fail
  refine (in_k _ 7 [10, 12, 11, 9, 20] [10, 12, 11, 9, 20, 17] 17 0 w _ (by omega) (by omega) (by decide) (by decide) HW7.out (Nat.le_refl _) HB7.out).mono ?_
  rintro e w8 ⟨rfl, HW8, HB8⟩
  clear HW7 HB7
  go_wp2_with fail
  refine (in_k _ 8 [10, 12, 11, 9, 20, 17] [10, 12, 11, 9, 20, 17] 16 2 w _ (by omega) (by omega) (by decide) (by decide) HW8.out (Nat.le_refl _) HB8.out).mono ?_
  rintro e w9 ⟨rfl, HW9, HB9⟩
  clear HW8 HB8
  go_wp2_with fail
  refine (missing_wn _ 4 9 [10, 12, 11, 9, 20, 17] _ (by omega) (by omega) HW9.out).mono ?_
  rintro e w10 ⟨A, cap, rfl, hN, -, hb⟩
  rw [show missL 4 [10, 12, 11, 9, 20, 17] = [18, 19] by decide] at hN ⊢
  have hsz := HB9.out.size
  have HB := Lib.hid (HB9.out.trans (hb.mono hsz))
  clear HW9 HB9 hb
  go_wp2_with fail
  refine (same_any A (some ⟨w10.heap.size, 0, none⟩) cap 2 [18, 19] [18, 19] w10.heap.size _ _ (hN.below ((Below.refl _ w10).alloc (Nat.le_refl _) _)) (nums_two w10 18 19 (by omega) (by omega))).mono ?_
  rintro e w11 ⟨rfl, j, rfl⟩
  have HB' := Lib.hid (below_drewN (HB.out.alloc HB.out.size (.cells #[.int .u64 18, .int .u64 19] 23)) j)
  clear hN HB
  go_wp2_with fail
  go_ret
  exact ⟨rfl, HB'.out⟩

set_option maxRecDepth 100000 in
set_option maxHeartbeats 2000000 in
theorem none_walk (n : Int) (w : World) : Calls Try.prog 4 #[.int .u64 n] w fun e w' => e = .returned (.bool true) ∧ Below w.heap.size w w' := by
  go_enter Try.func4, Try.ntmps4
  go_wp2_with (first
    | (go_at_call 11; refine (top_nil _).mono ?_; rintro e w' ⟨rfl, rfl⟩)
    | (go_at_call 10; refine (in_nil _ _).mono ?_; rintro e w' ⟨rfl, rfl⟩)
    | (go_at_call 12; refine (look_nil _ _).mono ?_; rintro e w' ⟨rfl, rfl⟩)
    | (go_at_call 14; refine (count_nil _ _).mono ?_; rintro e w' ⟨rfl, rfl⟩)
    | (go_at_call 13; refine (missing_nil _).mono ?_; rintro e w1 ⟨v, rfl, rfl, hb⟩; have HB := Lib.hid hb; clear hb)
    | (go_at_call 7; refine (works_any _).mono ?_; rintro e w2 ⟨rfl, hb2⟩; have HB' := Lib.hid (HB.out.trans (hb2.mono HB.out.size)); clear hb2))
  go_ret
  exact ⟨rfl, HB'.out⟩
end Go.Proofs.Ytihedeijfofogaa
