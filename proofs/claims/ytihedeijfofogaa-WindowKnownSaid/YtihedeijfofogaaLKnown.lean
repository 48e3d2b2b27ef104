/- The chapter's closed statement: the walk of the law WindowKnown. Conditions: none. -/
import Derived.Test.YtihedeijfofogaaLOnce
import Derived.Test.YtihedeijfofogaaLPlays
namespace Go.Proofs.Ytihedeijfofogaa
open Go.RowKit Go.Shelf

theorem plays_nums (sz : Int) (A : Option Addr) (cap : Nat) (zs : List Int) (n s : Int) (w : World) (n0 : 0 ≤ n) (n1 : n ≤ 18446744073709551615) (hl : zs.length ≤ 60) (hN : Nums .u64 w w.heap.size A zs) :
    Calls Try.prog 5 #[.int .i64 sz, .slice A zs.length cap, .int .u64 n, .int .i64 s] w fun e w' => e = .returned (.bool true) ∧ Below w.heap.size w w' := by
  by_cases h : sz < 1 ∨ 1024 < sz
  · exact plays_no sz n s A _ cap w (by omega) h
  · exact plays_main sz n s A cap zs w (by omega) (by omega) n0 n1 (by omega) hN
theorem once_nums (sz : Int) (A : Option Addr) (cap : Nat) (zs : List Int) (base : Int) (w : World) (n0 : 0 ≤ base) (n1 : base ≤ 18446744073709551615) (hl : zs.length ≤ 60) (hN : Nums .u64 w w.heap.size A zs) :
    Calls Try.prog 3 #[.int .i64 sz, .slice A zs.length cap, .int .u64 base] w fun e w' => e = .returned (.bool true) ∧ Below w.heap.size w w' := by
  have hp := pick_bd sz 1024 (by omega) (by omega)
  exact once_main sz _ _ base _ A cap zs w rfl hp.1 hp.2 rfl n0 n1 rfl (by omega) hN

theorem app_tail23 {w3 w' : World} {S n : Nat} {v : Value} {xs : List Value} {o : Obj} {cs : Array Value} (hX : Blk w3 S 23 cs) (hrow : w3.ownsRow (S + 1) 23 1 v n xs) (hg : (w3.alloc o).grownBy w' v.ownBlock) :
    Blk w' S 23 cs ∧ Below (S + 1) w3 w' := by
  have hlt := hX.lt
  refine ⟨(hX.alloc o).grown hg (not_own hrow (by omega)), ?_⟩
  refine Below.grown ((Below.refl (S + 1) w3).alloc (by omega) o) hg (by simp; omega) fun j e => ?_
  rcases hrow.2 with ⟨rfl, _⟩ | ⟨g, cap, cur, rfl, hb, _⟩
  · simp [Value.ownBlock] at e
  · simp only [Value.ownBlock, Option.some.injEq] at e; omega
/-- How great k may be behind i rounds. -/
def Kb (i : Nat) : Int := 850 * 2 ^ i - 50
theorem kb_more (i : Nat) : Kb (i + 1) = 2 * Kb i + 50 := by unfold Kb; rw [Int.pow_succ]; omega
theorem kb_le (i : Nat) (h : i ≤ 6) : 800 ≤ Kb i ∧ Kb i ≤ 54350 := by
  rcases (show i = 0 ∨ i = 1 ∨ i = 2 ∨ i = 3 ∨ i = 4 ∨ i = 5 ∨ i = 6 by omega) with rfl | rfl | rfl | rfl | rfl | rfl | rfl <;> decide
/-- The five numbers that the rows lie about. -/
def bs : List Int := [0, 1, 1020, 18446744073709551607, 4294967296]
theorem bs_at (r : Nat) (h : r < 5) : 0 ≤ bs.getD r 0 ∧ bs.getD r 0 ≤ 18446744073709551607 := by
  rcases (show r = 0 ∨ r = 1 ∨ r = 2 ∨ r = 3 ∨ r = 4 by omega) with rfl | rfl | rfl | rfl | rfl <;> decide
theorem bs_cell {w : World} {b : Nat} (h : Blk w b 23 #[.int .u64 0, .int .u64 1, .int .u64 1020, .int .u64 18446744073709551607, .int .u64 4294967296]) (r : Nat) (hr : r < 5) : w.cell? ⟨b, r, none⟩ = some (.int .u64 (bs.getD r 0)) := by
  rw [h.cell]
  rcases (show r = 0 ∨ r = 1 ∨ r = 2 ∨ r = 3 ∨ r = 4 by omega) with rfl | rfl | rfl | rfl | rfl <;> rfl

/-- The far row, and the sizes. -/
def far : List Int := [5, 1028, 5, 6, 1029, 5, 4000, 2977, 18446744073709551615, 18446744073709550592, 18446744073709550591, 0, 18446744073709551615]
def sizes : List Int := [-1, 0, 1, 2, 63, 64, 65, 1023, 1024, 1025]
theorem far_wf : ∀ x ∈ far, (Lit.int .u64 x).wf = true := by
  intro x hx
  have : ∀ x ∈ far, 0 ≤ x ∧ x ≤ 18446744073709551615 := by decide
  exact wf_u64 (this x hx).1 (this x hx).2
theorem far_facts {w w2 : World} (h : (w.alloc (.cells (far.map (Value.int .u64)).toArray 23)).alloc (.cells (sizes.map (Value.int .i64)).toArray 3) = w2) :
    Nums .u64 w2 w2.heap.size (some ⟨w.heap.size, 0, none⟩) far ∧ (∀ q, q < 10 → w2.cell? ⟨w.heap.size + 1, q, none⟩ = some (.int .i64 (sizes.getD q 0))) ∧ Below w.heap.size w w2 := by
  subst h
  refine ⟨⟨by decide, far_wf, fun _ => ⟨_, rfl, by simp; omega, fun j hj => ?_⟩⟩, fun q hq => ?_, ((Below.refl _ w).alloc (Nat.le_refl _) _).alloc (by simp) _⟩
  · rw [Addr.add_lit, Blk.cell ((Blk.new w 23 _).alloc _)]
    simp [List.getD_eq_getElem?_getD, hj]
  · have hb := Blk.new (w.alloc (.cells (far.map (Value.int .u64)).toArray 23)) 3 (sizes.map (Value.int .i64)).toArray
    rw [World.size_alloc] at hb
    rw [hb.cell]
    have : q < sizes.length := hq
    simp [List.getD_eq_getElem?_getD, this]

set_option maxHeartbeats 4000000 in
set_option maxRecDepth 100000 in
theorem known_walk (w : World) : Calls Try.prog 6 #[] w fun e w' => e = .returned (.bool true) ∧ Below w.heap.size w w' := by
  obtain ⟨i0, hi, hz0, hz1, hz2⟩ := info_parts info23
  go_enter Try.func6, Try.ntmps6
  go_wp2_with fail
  obtain ⟨w1, hw1⟩ : ∃ w1, w.alloc (.cells #[.int .u64 0, .int .u64 1, .int .u64 1020, .int .u64 18446744073709551607, .int .u64 4294967296] 23) = w1 := ⟨_, rfl⟩
  have hx1 : Blk w1 w.heap.size 23 #[.int .u64 0, .int .u64 1, .int .u64 1020, .int .u64 18446744073709551607, .int .u64 4294967296] := by rw [← hw1]; exact Blk.new w 23 _
  have hb1 : Below w.heap.size w w1 := by rw [← hw1]; exact (Below.refl _ w).alloc (Nat.le_refl _) _
  rw [hw1]
  have HX := Lib.hid hx1
  have HB := Lib.hid hb1
  clear hw1 hx1 hb1
  go_loopw [2] (fun v wr => ∃ n : Nat, v = .int .i64 n ∧ n ≤ 800 ∧ Blk wr w.heap.size 23 #[.int .u64 0, .int .u64 1, .int .u64 1020, .int .u64 18446744073709551607, .int .u64 4294967296] ∧ Below w.heap.size w wr) (fun v _ => 800 - (intOf v).toNat)
  case atStart => exact ⟨0, rfl, by omega, HX.out, HB.out⟩
  case round =>
    obtain ⟨n, rfl, hn, hx, hb⟩ := hrel
    clear HX HB
    have HX := Lib.hid hx
    have HB := Lib.hid hb
    have hxl := hx.lt
    clear hx hb
    by_cases hn8 : n < 800
    · have n0 : (0 : Int) ≤ (n : Int) := by omega
      have n8 : (n : Int) < 800 := by omega
      go_wp2_with fail
      go_loopw [3, 4, 5] (fun v kv iv wq => ∃ (i : Nat) (k : Int) (xs : List Int), iv = .int .i64 i ∧ i ≤ 6 ∧ kv = .int .i64 k ∧ 0 ≤ k ∧ k ≤ Kb i ∧ xs.length = i ∧ (∀ x ∈ xs, (Lit.int .u64 x).wf = true) ∧ wq.ownsRow (w.heap.size + 1) 23 1 v i (xs.map (Value.int .u64)) ∧ Blk wq w.heap.size 23 #[.int .u64 0, .int .u64 1, .int .u64 1020, .int .u64 18446744073709551607, .int .u64 4294967296] ∧ Below w.heap.size w wq) (fun _ _ iv _ => 6 - (intOf iv).toNat)
      case atStart => exact ⟨0, n, [], rfl, by omega, rfl, by omega, by have := (kb_le 0 (by omega)).1; omega, rfl, by simp, World.ownsRow_nil _ _ _ _, HX.out, HB.out⟩
      case round =>
        obtain ⟨i, k, xs, rfl, hi6, rfl, k0, kK, hxl', hwf, hown, hx, hb⟩ := hrel
        clear HX HB
        by_cases hi5 : i < 6
        · have hKb := kb_le i (by omega)
          have hKm := kb_more i
          have k1 : k ≤ 54350 := by omega
          have i5 : (i : Int) < 6 := by omega
          have i00 : (0 : Int) ≤ (i : Int) := by omega
          have hr5 : n % 5 < 5 := Nat.mod_lt _ (by omega)
          obtain ⟨r, hr⟩ : ∃ r, n % 5 = r := ⟨_, rfl⟩
          rw [hr] at hr5
          have hbc := bs_cell hx r hr5
          obtain ⟨v0, v1⟩ := bs_at r hr5
          generalize bs.getD r 0 = bv at hbc v0 v1
          have HX := Lib.hid hx
          have HB := Lib.hid hb
          have HWF := Lib.hid hwf
          clear hx hb hwf
          have hxs0 : 0 ≤ bv + k % 9 ∧ bv + k % 9 ≤ 18446744073709551615 := by omega
          have hwx := wf_u64 hxs0.1 hxs0.2
          go_wp2_with (at_builtin; refine wpList_append_own _ rfl _ _ 22 rfl (w.heap.size + 1) 23 i0 (.int .u64 0) 1 8 Try.underlying22 hi hz0 hz1 hz2 rfl (by decide) _ _ _ rfl (hown.alloc _) ⟨wr.heap.size, 0, none⟩ 1 1 [.int .u64 (bv + k % 9)] rfl rfl (cell_one_new _ _ _) (by simp [Value.oneCell']) (by simp [maxLen]; omega) (by omega) (by have := HX.out.lt; simp; omega) ?_; intro v' w5 hown' hgrow _; obtain ⟨hx5, hb5⟩ := app_tail23 HX.out hown hgrow)
          go_roundw
          case rel => exact ⟨i + 1, _, xs ++ [bv + k % 9], by simp, by omega, rfl, by go_light; omega, by rw [hKm]; go_light; omega, by simp [hxl'], by
            intro x hx
            rcases List.mem_append.1 hx with hx | hx
            · exact HWF.out x hx
            · simp at hx; subst hx; exact hwx, by simpa using hown', hx5, HB.out.trans (hb5.mono (by omega))⟩
          case measure => simp [intOf]; omega
        · obtain rfl : i = 6 := by omega
          obtain ⟨A, cap, rfl, hNx, -⟩ := own_nums (by rw [hxl']; exact hown) hwf
          have hl6 : xs.length ≤ 60 := by omega
          obtain ⟨r, hr⟩ : ∃ r, n % 5 = r := ⟨_, rfl⟩
          have hr5 : r < 5 := by omega
          have hbc := bs_cell hx r hr5
          obtain ⟨v0, v1⟩ := bs_at r hr5
          generalize bs.getD r 0 = bv at hbc v0 v1
          have hq0 : 0 ≤ bv + (n : Int) % 8 := by omega
          have hq1 : bv + (n : Int) % 8 ≤ 18446744073709551615 := by omega
          obtain ⟨r', hr'⟩ : ∃ r', n / 2 % 5 = r' := ⟨_, rfl⟩
          have hr5' : r' < 5 := by omega
          obtain ⟨v0', v1'⟩ := bs_at r' hr5'
          have HX := Lib.hid hx
          have HB := Lib.hid hb
          have HN := Lib.hid hNx
          have hsz := hb.size
          have HP := fun a b => Lib.hid (plays_nums a A cap xs (bv + (n : Int) % 8) b wr hq0 hq1 hl6 hNx)
          clear hx hb hNx hwf hown hxl'
          go_wp2_with fail
          refine (HP _ _).out.mono ?_
          rintro e w6 ⟨rfl, hb6⟩
          have HX6 := Lib.hid (HX.out.below hb6 HX.out.lt)
          have HB6 := Lib.hid (HB.out.trans (hb6.mono HB.out.size))
          have hc6 := bs_cell HX6.out r' hr5'
          generalize bs.getD r' 0 = bw at hc6 v0' v1'
          have HO := fun a => Lib.hid (once_nums a A cap xs bw w6 v0' (by omega) hl6 (nums_up HN.out hb6 (hb6.size)))
          clear HP hb6 HX HB HN
          by_cases hn2 : n % 2 = 0
          · have hn2' : (n : Int) % 2 = 0 := by omega
            go_wp2_with (go_at_call 3; refine (HO _).out.mono ?_; rintro e w7 ⟨rfl, hb7⟩; have HX7 := Lib.hid (HX6.out.below hb7 HX6.out.lt); have HB7 := Lib.hid (HB6.out.trans (hb7.mono HB6.out.size)); clear hb7)
            refine ⟨⟨n + 1, by simp, by omega, HX7.out, HB7.out⟩, by simp [intOf]; omega⟩
          · have hn2' : ¬ (n : Int) % 2 = 0 := by omega
            go_wp2_with fail
            refine ⟨⟨n + 1, by simp, by omega, HX6.out, HB6.out⟩, by simp [intOf]; omega⟩
    · obtain rfl : n = 800 := by omega
      go_wp2_with fail
      obtain ⟨w2, hw2⟩ : ∃ w2, (wr.alloc (.cells (far.map (Value.int .u64)).toArray 23)).alloc (.cells (sizes.map (Value.int .i64)).toArray 3) = w2 := ⟨_, rfl⟩
      obtain ⟨hNf, hcs, hb2⟩ := far_facts hw2
      have hB2 := HB.out.trans (hb2.mono HB.out.size)
      simp only [far, sizes, List.map_cons, List.map_nil] at hw2
      rw [hw2]
      have HNf := Lib.hid hNf
      have HB2 := Lib.hid hB2
      clear hw2 hNf hB2 hb2 HX HB
      go_loopw [77] (fun v wq => ∃ q : Nat, v = .int .i64 q ∧ q ≤ 10 ∧ Below w2.heap.size w2 wq) (fun v _ => 10 - (intOf v).toNat)
      case atStart => exact ⟨0, rfl, by omega, Below.refl _ _⟩
      case round =>
        obtain ⟨q, rfl, hq, hb⟩ := hrel
        by_cases hq10 : q < 10
        · have hcq := (hb.cell (block_lt_of_cell (hcs q hq10))).trans (hcs q hq10)
          generalize sizes.getD q 0 = sv at hcq
          have q10 : (q : Int) < 10 := by omega
          have q0 : (0 : Int) ≤ (q : Int) := by omega
          have hN3 := HNf.out.below hb
          have HBq := Lib.hid hb
          have HP := Lib.hid (plays_nums sv _ 13 far 6 1 _ (by omega) (by omega) (by decide) (nums_up HNf.out hb hb.size))
          clear hb
          go_wp2_with fail
          refine HP.out.mono ?_
          rintro e w6 ⟨rfl, hb6⟩
          have hb7 := HBq.out.trans (hb6.mono HBq.out.size)
          have HO := Lib.hid (once_nums sv _ 13 far 3 w6 (by omega) (by omega) (by decide) (nums_up HNf.out hb7 hb7.size))
          have HB7 := Lib.hid hb7
          clear HP hb6 hb7 hcq hN3 HBq
          go_wp2_with fail
          refine HO.out.mono ?_
          rintro e w7 ⟨rfl, hb7⟩
          have HB8 := Lib.hid (HB7.out.trans (hb7.mono HB7.out.size))
          clear HO HB7 hb7
          go_wp2_with fail
          refine ⟨?_, ?_⟩
          · (repeat apply Exists.intro)
            exact ⟨⟨q + 1, by simp, by omega, HB8.out⟩, rfl⟩
          · simp [intOf]; omega
        · obtain rfl : q = 10 := by omega
          have HBq := Lib.hid (HB2.out.trans (hb.mono HB2.out.size))
          clear hb HNf HB2
          go_wp2_with fail
          refine (none_walk 3 _).mono ?_
          rintro e w6 ⟨rfl, hb6⟩
          have HB6 := Lib.hid (HBq.out.trans (hb6.mono HBq.out.size))
          clear hb6 HBq
          go_wp2_with fail
          refine (plays_nums 3 none 0 [] 0 3 w6 (by omega) (by omega) (by decide) ⟨by simp, by simp, fun h => absurd h (by simp)⟩).mono ?_
          rintro e w7 ⟨rfl, hb7⟩
          have HB7 := Lib.hid (HB6.out.trans (hb7.mono HB6.out.size))
          clear hb7 HB6
          go_wp2_with fail
          refine (works_any _).mono ?_
          rintro e w8 ⟨rfl, hb8⟩
          have HB8 := Lib.hid (HB7.out.trans (hb8.mono HB7.out.size))
          clear hb8 HB7
          go_wp2_with fail
          go_ret
          exact ⟨rfl, HB8.out⟩
end Go.Proofs.Ytihedeijfofogaa
