/- The reference's functions, by contracts. Conditions: numbers of their kinds. -/
import Derived.Test.YtihedeijfofogaaFWin
namespace Go.Proofs.Ytihedeijfofogaa
open Go.RowKit Go.Shelf

theorem take_more {l : List Int} {k : Nat} {u : Int} (h : l[k]? = some u) : l.take (k + 1) = l.take k ++ [u] := by
  rw [List.take_add_one, h]; rfl
theorem u64_of {u : Int} (h : (Lit.int .u64 u).wf = true) : 0 ≤ u ∧ u ≤ 18446744073709551615 := u64_bd h
theorem nums_u64 {w : World} {B : Nat} {A : Option Addr} {l : List Int} (h : Nums .u64 w B A l) : ∀ x ∈ l, 0 ≤ x ∧ x ≤ 18446744073709551615 := fun x hx => u64_bd (h.2.1 x hx)

theorem has_any (A : Option Addr) (cap : Nat) (l : List Int) (n : Int) (B : Nat) (w : World) (hN : Nums .u64 w B A l) :
    Calls Try.prog 27 #[.slice A l.length cap, .int .u64 n] w fun e w' => e = .returned (.bool (decide (n ∈ l))) ∧ w = w' := by
  have hm : l.length ≤ 9223372036854775807 := hN.1
  go_enter Try.func27, Try.ntmps27
  go_wp2
  go_loopw [5] (fun v wr => ∃ k : Nat, v = .int .i64 k ∧ k ≤ l.length ∧ n ∉ l.take k ∧ w = wr) (fun v _ => l.length - (intOf v).toNat)
  case atStart => exact ⟨0, rfl, Nat.zero_le _, by simp, rfl⟩
  case round =>
    obtain ⟨k, rfl, hk, hn, rfl⟩ := hrel
    by_cases hlt : k < l.length
    · obtain ⟨ad, u, rfl, -, hu, hw, hc⟩ := hN.at_ hlt
      have hkk : (k : Int) < l.length := by omega
      have k0 : (0 : Int) ≤ (k : Int) := by omega
      have ht := take_more hu
      by_cases he : u = n
      · subst he
        have hin : decide (u ∈ l) = true := by rw [decide_eq_true_iff]; exact List.mem_of_getElem? hu
        go_wp2
        go_ret
        exact ⟨ret_bool hin.symm, rfl⟩
      · go_wp2
        go_roundw
        case rel => exact ⟨k + 1, by simp, by omega, by rw [ht]; simp [hn]; exact fun h => he h.symm, by trivial⟩
        case measure => simp [intOf]; omega
    · obtain rfl : k = l.length := by omega
      have hin : decide (n ∈ l) = false := by rw [decide_eq_false_iff_not]; simpa using hn
      go_wp2
      go_ret
      exact ⟨ret_bool hin.symm, rfl⟩

theorem same_any (A C : Option Addr) (cap dap : Nat) (l m : List Int) (B D : Nat) (w : World) (hN : Nums .u64 w B A l) (hM : Nums .u64 w D C m) :
    Calls Try.prog 18 #[.slice A l.length cap, .slice C m.length dap] w fun e w' => e = .returned (.bool (decide (l = m))) ∧ ∃ k, w' = w.drewN k := by
  have hm : l.length ≤ 9223372036854775807 := hN.1
  by_cases hl : l.length = m.length
  · have hl' : (l.length : Int) = (m.length : Int) := by omega
    go_enter Try.func18, Try.ntmps18
    go_wp2
    go_loopw [5] (fun v wr => ∃ k j : Nat, v = .int .i64 k ∧ k ≤ l.length ∧ l.take k = m.take k ∧ wr = w.drewN j) (fun v _ => l.length - (intOf v).toNat)
    case atStart => exact ⟨0, 0, rfl, Nat.zero_le _, by simp, rfl⟩
    case round =>
      obtain ⟨k, j, rfl, hk, he, rfl⟩ := hrel
      by_cases hlt : k < l.length
      · obtain ⟨ad, u, rfl, -, hu, hw, hc⟩ := hN.at_ hlt
        obtain ⟨ad', u', rfl, -, hu', hw', hc'⟩ := hM.at_ (j := k) (by omega)
        have hkk : (k : Int) < l.length := by omega
        have hkk' : (k : Int) < m.length := by omega
        have k0 : (0 : Int) ≤ (k : Int) := by omega
        have ht := take_more hu
        have ht' := take_more hu'
        by_cases hne : u = u'
        · subst hne
          go_wp2
          go_quiet (fail)
          go_wp2
          go_roundw
          case rel => exact ⟨k + 1, _, by simp, by omega, by rw [ht, ht', he], rfl⟩
          case measure => simp [intOf]; omega
        · have hne' : decide (l = m) = false := by
            rw [decide_eq_false_iff_not]; rintro rfl
            rw [hu] at hu'; exact hne (by simpa using hu')
          go_wp2
          go_quiet (fail)
          go_wp2
          go_ret
          exact ⟨ret_bool hne'.symm, _, by rw [World.drewN_drewN]⟩
      · obtain rfl : k = l.length := by omega
        have hin : decide (l = m) = true := by
          rw [decide_eq_true_iff]
          rw [List.take_length, hl, List.take_length] at he
          exact he
        go_wp2
        go_ret
        exact ⟨ret_bool hin.symm, _, rfl⟩
  · have hne : decide (l = m) = false := by rw [decide_eq_false_iff_not]; rintro rfl; exact hl rfl
    rw [hne]
    have hl' : ¬ (l.length : Int) = (m.length : Int) := by omega
    go_enter Try.func18, Try.ntmps18
    go_wp2
    go_ret
    exact ⟨rfl, 0, rfl⟩

theorem topL_more {l : List Int} {k : Nat} {u : Int} (h : l[k]? = some u) : topL (l.take (k + 1)) = max (topL (l.take k)) u := by rw [take_more h, topL_snoc]
theorem reftop_any (sz : Int) (A : Option Addr) (cap : Nat) (l : List Int) (B : Nat) (w : World) (hN : Nums .u64 w B A l) (hB : B ≤ w.heap.size) :
    Calls Try.prog 17 #[.agg #[.int .i64 sz, .slice A l.length cap]] w fun e w' => e = .returned (.tuple #[.int .u64 (topL l), .bool (!l.isEmpty)]) ∧ Below w.heap.size w w' := by
  have hm : l.length ≤ 9223372036854775807 := hN.1
  go_enter Try.func17, Try.ntmps17
  go_wp2
  obtain ⟨w1, hw1⟩ : ∃ w1, w.alloc (.cells #[.int .i64 sz, .slice A l.length cap] 39) = w1 := ⟨_, rfl⟩
  have hb1 : Below w.heap.size w w1 := by rw [← hw1]; exact (Below.refl _ w).alloc (Nat.le_refl _) _
  have hx1 : Blk w1 w.heap.size 39 #[.int .i64 sz, .slice A l.length cap] := by rw [← hw1]; exact Blk.new w 39 _
  rw [hw1]
  clear hw1
  have hN1 := hN.below (hb1.mono hB)
  have c1 : w1.cell? ⟨w.heap.size, 1, none⟩ = some (.slice A l.length cap) := Blk.cell hx1 1
  go_loopw [4, 5] (fun t v wr => ∃ k : Nat, v = .int .i64 k ∧ t = .int .u64 (topL (l.take k)) ∧ k ≤ l.length ∧ w1 = wr) (fun _ v _ => l.length - (intOf v).toNat)
  case atStart => exact ⟨0, rfl, by simp [topL], Nat.zero_le _, rfl⟩
  case round =>
    obtain ⟨k, rfl, rfl, hk, rfl⟩ := hrel
    by_cases hlt : k < l.length
    · obtain ⟨ad, u, rfl, -, hu, hw, hc⟩ := hN1.at_ hlt
      have hkk : (k : Int) < l.length := by omega
      have k0 : (0 : Int) ≤ (k : Int) := by omega
      have ht := topL_more hu
      by_cases hmx : topL (l.take k) ≤ u
      · go_wp2
        go_roundw
        case rel => exact ⟨k + 1, by simp, by rw [ht]; simp; omega, by omega, by trivial⟩
        case measure => simp [intOf]; omega
      · go_wp2
        go_roundw
        case rel => exact ⟨k + 1, by simp, by rw [ht]; simp; omega, by omega, by trivial⟩
        case measure => simp [intOf]; omega
    · obtain rfl : k = l.length := by omega
      go_wp2
      go_quiet (fail)
      go_wp2
      go_ret2
      refine ⟨?_, below_drewN hb1 _⟩
      show Ending.returned (.tuple #[.int .u64 (topL (l.take l.length)), .bool (decide (0 < l.length))]) = _
      rw [List.take_length, show decide (0 < l.length) = !l.isEmpty by cases l <;> simp]

/-- The reference's boxed window. -/
theorem box_facts {w w1 : World} {x y : Value} (h : w.alloc (.cells #[x, y] 39) = w1) :
    Blk w1 w.heap.size 39 #[x, y] ∧ Below w.heap.size w w1 ∧ w1.heap.size = w.heap.size + 1 := by
  subst h; exact ⟨Blk.new w 39 _, (Below.refl _ w).alloc (Nat.le_refl _) _, by simp⟩

set_option maxHeartbeats 1000000 in
theorem refbottom_any (sz : Int) (A : Option Addr) (cap : Nat) (l : List Int) (B : Nat) (w : World) (s0 : 1 ≤ sz) (s1 : sz ≤ 1024) (hN : Nums .u64 w B A l) (hB : B ≤ w.heap.size) :
    Calls Try.prog 26 #[.agg #[.int .i64 sz, .slice A l.length cap]] w fun e w' => e = .returned (.int .u64 (bot sz (topL l))) ∧ Below w.heap.size w w' := by
  have HT := fun W hW hB => reftop_any sz A cap l B W hW hB
  have ht0 := topL_ge l
  have ht1 : topL l ≤ 18446744073709551615 := topL_le (by omega) fun x hx => (nums_u64 hN x hx).2
  generalize (!l.isEmpty) = g at HT
  generalize topL l = t at HT ht0 ht1 ⊢
  go_enter Try.func26, Try.ntmps26
  go_wp2_with fail
  obtain ⟨w1, hw1⟩ : ∃ w1, w.alloc (.cells #[.int .i64 sz, .slice A l.length cap] 39) = w1 := ⟨_, rfl⟩
  obtain ⟨hx1, hb1, hz1⟩ := box_facts hw1
  rw [hw1]
  clear hw1
  refine (HT w1 (hN.below (hb1.mono hB)) (by omega)).mono ?_
  rintro e w2 ⟨rfl, hb2⟩
  have hx2 := hx1.below hb2 (by omega)
  have hb := hb1.trans (hb2.mono (by omega))
  have c0 : w2.cell? ⟨w.heap.size, 0, none⟩ = some (.int .i64 sz) := Blk.cell hx2 0
  have HB := Lib.hid hb
  clear hx1 hx2 hb1 hb2 hb HT hN
  by_cases h : t < sz
  · have e : bot sz t = 0 := by unfold bot; rw [if_pos (by omega)]
    go_wp2_with fail
    go_ret
    exact ⟨ret_int e.symm, HB.out⟩
  · have e : bot sz t = t - sz + 1 := by unfold bot; rw [if_neg (by omega)]; omega
    go_wp2_with fail
    go_ret
    exact ⟨ret_int e.symm, HB.out⟩

set_option maxHeartbeats 1000000 in
theorem reflook_any (sz : Int) (A : Option Addr) (cap : Nat) (l : List Int) (n : Int) (B : Nat) (w : World) (s0 : 1 ≤ sz) (s1 : sz ≤ 1024) (hN : Nums .u64 w B A l) (hB : B ≤ w.heap.size) :
    Calls Try.prog 16 #[.agg #[.int .i64 sz, .slice A l.length cap], .int .u64 n] w fun e w' => e = .returned (.int .i64 (lookL sz l n)) ∧ Below w.heap.size w w' := by
  have HT := fun W hW hB => reftop_any sz A cap l B W hW hB
  have HM := fun W hW hB => refbottom_any sz A cap l B W s0 s1 hW hB
  have HH := fun W hW => has_any A cap l n B W hW
  obtain ⟨v, hv⟩ : ∃ v, lookL sz l n = v := ⟨_, rfl⟩
  rw [hv]
  unfold lookL at hv
  have hem : (!l.isEmpty) = decide (l ≠ []) := by cases l <;> simp
  rw [hem] at HT
  clear hem
  generalize topL l = t at HT HM hv
  generalize bot sz t = q at HM hv
  by_cases hl : l = []
  · rw [if_pos (.inl hl)] at hv
    rw [show decide (l ≠ []) = false by simp [hl]] at HT
    clear HM HH hl
    go_enter Try.func16, Try.ntmps16
    go_wp2_with fail
    obtain ⟨w1, hw1⟩ : ∃ w1, w.alloc (.cells #[.int .i64 sz, .slice A l.length cap] 39) = w1 := ⟨_, rfl⟩
    obtain ⟨hx1, hb1, hz1⟩ := box_facts hw1
    rw [hw1]
    clear hw1
    refine (HT w1 (hN.below (hb1.mono hB)) (by omega)).mono ?_
    rintro e w2 ⟨rfl, hb2⟩
    have HB := Lib.hid (hb1.trans (hb2.mono (by omega)))
    clear hx1 hb1 hb2 HT hN
    go_wp2_with fail
    go_ret
    exact ⟨ret_int hv, HB.out⟩
  rw [show decide (l ≠ []) = true by simp [hl]] at HT
  by_cases h1 : t < n
  · rw [if_pos (.inr h1)] at hv
    clear HM HH hl
    go_enter Try.func16, Try.ntmps16
    go_wp2_with fail
    obtain ⟨w1, hw1⟩ : ∃ w1, w.alloc (.cells #[.int .i64 sz, .slice A l.length cap] 39) = w1 := ⟨_, rfl⟩
    obtain ⟨hx1, hb1, hz1⟩ := box_facts hw1
    rw [hw1]
    clear hw1
    refine (HT w1 (hN.below (hb1.mono hB)) (by omega)).mono ?_
    rintro e w2 ⟨rfl, hb2⟩
    have HB := Lib.hid (hb1.trans (hb2.mono (by omega)))
    clear hx1 hb1 hb2 HT hN
    go_wp2_with fail
    go_ret
    exact ⟨ret_int hv, HB.out⟩
  rw [if_neg (by rintro (h | h); exact hl h; exact h1 h)] at hv
  by_cases h2 : n < q
  · rw [if_pos h2] at hv
    clear HH hl
    go_enter Try.func16, Try.ntmps16
    go_wp2_with fail
    obtain ⟨w1, hw1⟩ : ∃ w1, w.alloc (.cells #[.int .i64 sz, .slice A l.length cap] 39) = w1 := ⟨_, rfl⟩
    obtain ⟨hx1, hb1, hz1⟩ := box_facts hw1
    rw [hw1]
    clear hw1
    refine (HT w1 (hN.below (hb1.mono hB)) (by omega)).mono ?_
    rintro e w2 ⟨rfl, hb2⟩
    have hx2 := hx1.below hb2 (by omega)
    have HB := Lib.hid (hb1.trans (hb2.mono (by omega)))
    have hz2 := hb2.size
    have c0 : w2.cell? ⟨w.heap.size, 0, none⟩ = some (.int .i64 sz) := Blk.cell hx2 0
    have c1 : w2.cell? ⟨w.heap.size, 1, none⟩ = some (.slice A l.length cap) := Blk.cell hx2 1
    have HM := Lib.hid (HM w2 (hN.below (HB.out.mono hB)) (by omega))
    clear hx1 hx2 hb1 hb2 HT hN
    go_wp2_with fail
    refine HM.out.mono ?_
    rintro e w3 ⟨rfl, hb3⟩
    have HB' := Lib.hid (HB.out.trans (hb3.mono (by omega)))
    clear HB hb3 HM c0 c1
    go_wp2_with fail
    go_ret
    exact ⟨ret_int hv, HB'.out⟩
  rw [if_neg h2] at hv
  go_enter Try.func16, Try.ntmps16
  go_wp2_with fail
  obtain ⟨w1, hw1⟩ : ∃ w1, w.alloc (.cells #[.int .i64 sz, .slice A l.length cap] 39) = w1 := ⟨_, rfl⟩
  obtain ⟨hx1, hb1, hz1⟩ := box_facts hw1
  rw [hw1]
  clear hw1
  refine (HT w1 (hN.below (hb1.mono hB)) (by omega)).mono ?_
  rintro e w2 ⟨rfl, hb2⟩
  have hx2 := hx1.below hb2 (by omega)
  have HB := Lib.hid (hb1.trans (hb2.mono (by omega)))
  have hz2 := hb2.size
  have c0 : w2.cell? ⟨w.heap.size, 0, none⟩ = some (.int .i64 sz) := Blk.cell hx2 0
  have c1 : w2.cell? ⟨w.heap.size, 1, none⟩ = some (.slice A l.length cap) := Blk.cell hx2 1
  have HM := Lib.hid (HM w2 (hN.below (HB.out.mono hB)) (by omega))
  have HX := Lib.hid hx2
  have HN := Lib.hid hN
  clear hx1 hx2 hb1 hb2 HT hN
  go_wp2_with fail
  refine HM.out.mono ?_
  rintro e w3 ⟨rfl, hb3⟩
  have HB' := Lib.hid (HB.out.trans (hb3.mono (by omega)))
  have d1 : w3.cell? ⟨w.heap.size, 1, none⟩ = some (.slice A l.length cap) := Blk.cell (HX.out.below hb3 (by omega)) 1
  have HH := Lib.hid (HH w3 (HN.out.below (HB'.out.mono hB)))
  clear HB hb3 HM c0 c1 HX HN
  by_cases hm : n ∈ l
  · rw [if_pos hm] at hv
    rw [show decide (n ∈ l) = true by simp [hm]] at HH
    go_wp2_with fail
    refine HH.out.mono ?_
    rintro e w' ⟨rfl, rfl⟩
    clear HH d1
    go_wp2_with fail
    go_ret
    exact ⟨ret_int hv, HB'.out⟩
  · rw [if_neg hm] at hv
    rw [show decide (n ∈ l) = false by simp [hm]] at HH
    go_wp2_with fail
    refine HH.out.mono ?_
    rintro e w' ⟨rfl, rfl⟩
    clear HH d1
    go_wp2_with fail
    go_ret
    exact ⟨ret_int hv, HB'.out⟩
end Go.Proofs.Ytihedeijfofogaa
