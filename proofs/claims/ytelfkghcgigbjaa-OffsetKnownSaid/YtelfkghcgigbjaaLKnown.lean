/- The examples of the chapter, pairs of rings of few digits, and numbers about the bounds of others: the walk of the closed law OffsetKnown. Conditions: none. -/
import Derived.Test.YtelfkghcgigbjaaLNone
import Derived.Test.YtelfkghcgigbjaaLPlays
import Derived.Test.YtelfkghcgigbjaaLRings
import Derived.Deep.Light
namespace Go.Proofs.Ytelfkghcgigbjaa
open Go.RowKit

theorem u64_wf {x : Int} (h0 : 0 ≤ x) (h1 : x ≤ 18446744073709551615) : (Lit.int .u64 x).wf = true := by
  simp only [Lit.wf, Bool.and_eq_true, decide_eq_true_eq]
  have e1 : IntKind.u64.min = 0 := rfl
  have e2 : IntKind.u64.max = 18446744073709551615 := rfl
  omega
theorem i64_wf {x : Int} (h0 : -9223372036854775808 ≤ x) (h1 : x ≤ 9223372036854775807) : (Lit.int .i64 x).wf = true := by
  simp only [Lit.wf, Bool.and_eq_true, decide_eq_true_eq]
  have e1 : IntKind.i64.min = -9223372036854775808 := rfl
  have e2 : IntKind.i64.max = 9223372036854775807 := rfl
  omega
theorem row4 (w : World) (a b c d : Int) (h : ∀ n ∈ [a, b, c, d], 0 ≤ n ∧ n ≤ 18446744073709551615) :
    IsRow .u64 (w.alloc (.cells #[.int .u64 a, .int .u64 b, .int .u64 c, .int .u64 d] 22)) (some ⟨w.heap.size, 0, none⟩) 4 4 [a, b, c, d] := by
  refine .inr ⟨_, rfl, by omega, by simp [maxLen], rfl, fun i hi => ?_, fun n hn => u64_wf (h n hn).1 (h n hn).2⟩
  simp at hi
  have k := Blk.new w 22 #[.int .u64 a, .int .u64 b, .int .u64 c, .int .u64 d]
  rcases (show i = 0 ∨ i = 1 ∨ i = 2 ∨ i = 3 by omega) with rfl | rfl | rfl | rfl
  · exact k.cell 0
  · exact k.cell 1
  · exact k.cell 2
  · exact k.cell 3
theorem row3 (w : World) (a b c : Int) (h : ∀ n ∈ [a, b, c], 0 ≤ n ∧ n ≤ 18446744073709551615) :
    IsRow .u64 (w.alloc (.cells #[.int .u64 a, .int .u64 b, .int .u64 c] 22)) (some ⟨w.heap.size, 0, none⟩) 3 3 [a, b, c] := by
  refine .inr ⟨_, rfl, by omega, by simp [maxLen], rfl, fun i hi => ?_, fun n hn => u64_wf (h n hn).1 (h n hn).2⟩
  simp at hi
  have k := Blk.new w 22 #[.int .u64 a, .int .u64 b, .int .u64 c]
  rcases (show i = 0 ∨ i = 1 ∨ i = 2 by omega) with rfl | rfl | rfl
  · exact k.cell 0
  · exact k.cell 1
  · exact k.cell 2
theorem row0 (k : IntKind) (w : World) : IsRow k w none 0 0 [] := .inl ⟨rfl, rfl, rfl, rfl⟩
theorem acts0 (w : World) : IsActs w (.slice none 0 0) := ⟨none, 0, [], rfl, by simp, by simp, by simp, fun h => absurd h (by simp)⟩

theorem ringsA (r n k : Int) (W : World) (h : (-1 ≤ r ∧ r ≤ 66) ∧ (0 ≤ n ∧ n ≤ 60) ∧ 0 ≤ k ∧ k ≤ 60) :
    Calls Try.prog 6 #[.int .i64 r, .int .u64 n, .int .u64 k, .slice (some ⟨W.heap.size, 0, none⟩) 4 4] (W.alloc (.cells #[.int .u64 k, .int .u64 n, .int .u64 (n + 3), .int .u64 (k + 5)] 22)) fun e w' => e = .returned (.bool true) ∧ Below W.heap.size W w' := by
  refine (rings_any _ _ _ _ _ _ [k, n, n + 3, k + 5] _ (i64_wf (by omega) (by omega)) (u64_wf (by omega) (by omega)) (u64_wf (by omega) (by omega)) (row4 _ k n (n + 3) (k + 5) (by simp; omega))).mono ?_
  rintro e w' ⟨rfl, hb⟩
  exact ⟨rfl, ((Below.refl _ _).alloc (Nat.le_refl _) _).trans (hb.mono (by simp))⟩
theorem ringsB (r a b x y z : Int) (W : World) (h : -1 ≤ r ∧ r ≤ 66) :
    Calls Try.prog 6 #[.int .i64 r, .int .u64 (IntKind.u64.wrap a), .int .u64 (IntKind.u64.wrap b), .slice (some ⟨W.heap.size, 0, none⟩) 3 3] (W.alloc (.cells #[.int .u64 (IntKind.u64.wrap x), .int .u64 (IntKind.u64.wrap y), .int .u64 (IntKind.u64.wrap z)] 22)) fun e w' => e = .returned (.bool true) ∧ Below W.heap.size W w' := by
  have ha := wrap_bd a
  have hb := wrap_bd b
  have hx := wrap_bd x
  have hy := wrap_bd y
  have hz := wrap_bd z
  refine (rings_any _ _ _ _ _ _ [IntKind.u64.wrap x, IntKind.u64.wrap y, IntKind.u64.wrap z] _ (i64_wf (by omega) (by omega)) (u64_wf ha.1 ha.2) (u64_wf hb.1 hb.2) (row3 _ (IntKind.u64.wrap x) (IntKind.u64.wrap y) (IntKind.u64.wrap z) (by simp; omega))).mono ?_
  rintro e w' ⟨rfl, hb⟩
  exact ⟨rfl, ((Below.refl _ _).alloc (Nat.le_refl _) _).trans (hb.mono (by simp))⟩
theorem ringsC (r a : Int) (W : World) (h : -1 ≤ r ∧ r ≤ 66) :
    Calls Try.prog 6 #[.int .i64 r, .int .u64 (IntKind.u64.wrap a), .int .u64 0, .slice none 0 0] W fun e w' => e = .returned (.bool true) ∧ Below W.heap.size W w' := by
  have ha := wrap_bd a
  exact rings_any _ _ _ _ _ _ [] _ (i64_wf (by omega) (by omega)) (u64_wf ha.1 ha.2) (u64_wf (by omega) (by omega)) (row0 _ _)
theorem keepsA (r n x y z : Int) (W : World) (h : (-1 ≤ r ∧ r ≤ 66) ∧ 0 ≤ n ∧ n ≤ 60) (hx : 0 ≤ x ∧ x ≤ 18446744073709551615) (hy : 0 ≤ y ∧ y ≤ 18446744073709551615) (hz : 0 ≤ z ∧ z ≤ 18446744073709551615) :
    Calls Try.prog 3 #[.int .i64 r, .int .u64 n, .int .u64 x, .int .u64 y, .int .u64 z] W fun e w' => e = .returned (.bool true) ∧ Below W.heap.size W w' :=
  keeps_any _ _ _ _ _ _ (i64_wf (by omega) (by omega)) (u64_wf (by omega) (by omega)) (u64_wf hx.1 hx.2) (u64_wf hy.1 hy.2) (u64_wf hz.1 hz.2)
/-- The seven acts. -/
def sevenCells (n : Int) : Array Value := #[.int .i64 3, .int .u64 0, .int .u64 0, .int .i64 0, .int .u64 n, .int .u64 3, .int .i64 1, .int .u64 7, .int .u64 0, .int .i64 4, .int .u64 0, .int .u64 0, .int .i64 2, .int .u64 n, .int .u64 0, .int .i64 5, .int .u64 18446744073709551615, .int .u64 0, .int .i64 3, .int .u64 0, .int .u64 0]
theorem seven (n : Int) (h : 0 ≤ n ∧ n ≤ 60) (W : World) : IsActs (W.alloc (.cells (sevenCells n) 41)) (.slice (some ⟨W.heap.size, 0, none⟩) 7 7) := by
  have k := Blk.new W 41 (sevenCells n)
  refine ⟨some ⟨W.heap.size, 0, none⟩, 7, [(3, 0, 0), (0, n, 3), (1, 7, 0), (4, 0, 0), (2, n, 0), (5, 18446744073709551615, 0), (3, 0, 0)], rfl, by simp, by simp [maxLen], by simp [maxLen], fun _ => ⟨_, rfl, by simp, fun j x hj => ?_⟩⟩
  have hj7 : j < 7 := by
    rcases Nat.lt_or_ge j 7 with hlt | hge
    · exact hlt
    · rw [List.getElem?_eq_none (by simpa using hge)] at hj; cases hj
  rcases (show j = 0 ∨ j = 1 ∨ j = 2 ∨ j = 3 ∨ j = 4 ∨ j = 5 ∨ j = 6 by omega) with rfl | rfl | rfl | rfl | rfl | rfl | rfl
  all_goals
    simp at hj
    subst hj
    exact ⟨⟨i64_wf (by simp) (by simp), u64_wf (by first | simp; done | (simp; omega)) (by first | simp; done | (simp; omega)), u64_wf (by simp) (by simp)⟩, k.cell _, k.cell _, k.cell _⟩
theorem playsA (r n x : Int) (W : World) (h : (-1 ≤ r ∧ r ≤ 66) ∧ 0 ≤ n ∧ n ≤ 60) :
    Calls Try.prog 4 #[.int .i64 r, .int .u64 (IntKind.u64.wrap x), .slice (some ⟨W.heap.size, 0, none⟩) 7 7] (W.alloc (.cells (sevenCells n) 41)) fun e w' => e = .returned (.bool true) ∧ Below W.heap.size W w' := by
  have hx := wrap_bd x
  refine (plays_any _ _ _ _ (i64_wf (by omega) (by omega)) (u64_wf hx.1 hx.2) (seven n h.2 W)).mono ?_
  rintro e w' ⟨rfl, hb⟩
  exact ⟨rfl, ((Below.refl _ _).alloc (Nat.le_refl _) _).trans (hb.mono (by simp))⟩
theorem ringsG3 (r a b x y z : Int) (W : World) (h : -1 ≤ r ∧ r ≤ 66) (ha : 0 ≤ a ∧ a ≤ 18446744073709551615) (hb : 0 ≤ b ∧ b ≤ 18446744073709551615) (hx : 0 ≤ x ∧ x ≤ 18446744073709551615) (hy : 0 ≤ y ∧ y ≤ 18446744073709551615) (hz : 0 ≤ z ∧ z ≤ 18446744073709551615) :
    Calls Try.prog 6 #[.int .i64 r, .int .u64 a, .int .u64 b, .slice (some ⟨W.heap.size, 0, none⟩) 3 3] (W.alloc (.cells #[.int .u64 x, .int .u64 y, .int .u64 z] 22)) fun e w' => e = .returned (.bool true) ∧ Below W.heap.size W w' := by
  refine (rings_any _ _ _ _ _ _ [x, y, z] _ (i64_wf (by omega) (by omega)) (u64_wf ha.1 ha.2) (u64_wf hb.1 hb.2) (row3 _ x y z (by simp; omega))).mono ?_
  rintro e w' ⟨rfl, hb⟩
  exact ⟨rfl, ((Below.refl _ _).alloc (Nat.le_refl _) _).trans (hb.mono (by simp))⟩
theorem ringsG0 (r a b : Int) (W : World) (h : -1 ≤ r ∧ r ≤ 66) (ha : 0 ≤ a ∧ a ≤ 18446744073709551615) (hb : 0 ≤ b ∧ b ≤ 18446744073709551615) :
    Calls Try.prog 6 #[.int .i64 r, .int .u64 a, .int .u64 b, .slice none 0 0] W fun e w' => e = .returned (.bool true) ∧ Below W.heap.size W w' :=
  rings_any _ _ _ _ _ _ [] _ (i64_wf (by omega) (by omega)) (u64_wf ha.1 ha.2) (u64_wf hb.1 hb.2) (row0 _ _)
theorem keepsG (r n x y z : Int) (W : World) (h : -1 ≤ r ∧ r ≤ 66) (hn : 0 ≤ n ∧ n ≤ 18446744073709551615) (hx : 0 ≤ x ∧ x ≤ 18446744073709551615) (hy : 0 ≤ y ∧ y ≤ 18446744073709551615) (hz : 0 ≤ z ∧ z ≤ 18446744073709551615) :
    Calls Try.prog 3 #[.int .i64 r, .int .u64 n, .int .u64 x, .int .u64 y, .int .u64 z] W fun e w' => e = .returned (.bool true) ∧ Below W.heap.size W w' :=
  keeps_any _ _ _ _ _ _ (i64_wf (by omega) (by omega)) (u64_wf hn.1 hn.2) (u64_wf hx.1 hx.2) (u64_wf hy.1 hy.2) (u64_wf hz.1 hz.2)
theorem playsG (r n x : Int) (W : World) (h : -1 ≤ r ∧ r ≤ 66) (hn : 0 ≤ n ∧ n ≤ 60) (hx : 0 ≤ x ∧ x ≤ 18446744073709551615) :
    Calls Try.prog 4 #[.int .i64 r, .int .u64 x, .slice (some ⟨W.heap.size, 0, none⟩) 7 7] (W.alloc (.cells #[.int .i64 3, .int .u64 0, .int .u64 0, .int .i64 0, .int .u64 n, .int .u64 3, .int .i64 1, .int .u64 7, .int .u64 0, .int .i64 4, .int .u64 0, .int .u64 0, .int .i64 2, .int .u64 n, .int .u64 0, .int .i64 5, .int .u64 18446744073709551615, .int .u64 0, .int .i64 3, .int .u64 0, .int .u64 0] 41)) fun e w' => e = .returned (.bool true) ∧ Below W.heap.size W w' := by
  refine (plays_any _ _ _ _ (i64_wf (by omega) (by omega)) (u64_wf hx.1 hx.2) (seven n hn W)).mono ?_
  rintro e w' ⟨rfl, hb⟩
  exact ⟨rfl, ((Below.refl _ _).alloc (Nat.le_refl _) _).trans (hb.mono (by simp))⟩
theorem one_bd : (0 : Int) ≤ 1 ∧ (1 : Int) ≤ 18446744073709551615 := by omega
theorem nil_bd : (0 : Int) ≤ 0 ∧ (0 : Int) ≤ 18446744073709551615 := by omega
theorem trans0 {a w w5 : World} (hb : Below w.heap.size w w5) (h : Below a.heap.size a w) : Below a.heap.size a w5 := h.trans (hb.mono h.size)
set_option maxHeartbeats 8000000 in
set_option maxRecDepth 100000 in
theorem known_any (w : World) : Calls Try.prog 7 #[] w fun e w' => e = .returned (.bool true) ∧ Below w.heap.size w w' := by
  go_enter Try.func7, Try.ntmps7
  go_wp2_with fail
  go_loopw [1] (fun v wr => ∃ r : Int, -1 ≤ r ∧ r ≤ 66 ∧ v = .int .i64 r ∧ Below w.heap.size w wr) (fun v _ => (66 - intOf v).toNat)
  case atStart => exact ⟨-1, by omega, by omega, rfl, Below.refl _ _⟩
  case round =>
    obtain ⟨r, r0, r1, rfl, hB⟩ := hrel
    have HB := Lib.hid hB
    clear hB
    have hr : -1 ≤ r ∧ r ≤ 66 := ⟨r0, r1⟩
    by_cases hlr : r < 66
    · go_wp2_with fail
      obtain ⟨wo, hwo⟩ : ∃ wo : World, wo = wr := ⟨_, rfl⟩
      subst hwo
      go_loopw [2] (fun v wr => ∃ n : Int, 0 ≤ n ∧ n ≤ 60 ∧ v = .int .u64 n ∧ Below w.heap.size w wr) (fun v _ => (34 - intOf v).toNat)
      case atStart => exact ⟨0, by omega, by omega, rfl, HB.out⟩
      case round =>
        obtain ⟨n, n0, n1, rfl, hB⟩ := hrel
        clear HB
        have HB := Lib.hid hB
        clear hB
        by_cases hln : n < 34
        · go_wp2_with fail
          obtain ⟨wp, hwp⟩ : ∃ wp : World, wp = wr := ⟨_, rfl⟩
          subst hwp
          have Bn1 : 0 ≤ 1 + n ∧ 1 + n ≤ 18446744073709551615 := by omega
          have Bn2 : 0 ≤ n + 1 ∧ n + 1 ≤ 18446744073709551615 := by omega
          have Bn3 : 0 ≤ n ∧ n ≤ 18446744073709551615 := by omega
          have Bk1 : 0 ≤ 9223372036854775808 + n ∧ 9223372036854775808 + n ≤ 18446744073709551615 := by omega
          have Bk2 : 0 ≤ 18446744073709551615 - n ∧ 18446744073709551615 - n ≤ 18446744073709551615 := by omega
          have Bk3 : 0 ≤ n * 7 ∧ n * 7 ≤ 18446744073709551615 := by omega
          go_loopw [3] (fun v wr => ∃ k : Int, 0 ≤ k ∧ k ≤ 60 ∧ v = .int .u64 k ∧ Below w.heap.size w wr) (fun v _ => (34 - intOf v).toNat)
          case atStart => exact ⟨0, by omega, by omega, rfl, HB.out⟩
          case round =>
            obtain ⟨k, k0, k1, rfl, hB⟩ := hrel
            clear HB
            have HB := Lib.hid hB
            clear hB
            by_cases hlk : k < 34
            · rcases (show r < 1 ∨ r = 1 ∨ 1 < r by omega) with hr1 | hr1 | hr1
              · · cases hnk : (n == k)
                  · go_wp2_with fail
                    refine (ringsA r n k _ ⟨hr, ⟨n0, n1⟩, k0, k1⟩).mono ?_
                    rintro e w5 ⟨rfl, hb5⟩
                    have HB5 := Lib.hid (trans0 hb5 HB.out)
                    clear hb5 HB
                    go_wp2_with fail
                    refine (ringsG3 r _ _ _ _ _ _ hr (by first | exact wrap_bd _ | exact one_bd | exact nil_bd | exact Bn1 | exact Bn2) (by first | exact wrap_bd _ | exact one_bd | exact nil_bd | exact Bn1 | exact Bn2) (by first | exact wrap_bd _ | exact one_bd | exact nil_bd | exact Bn1 | exact Bn2) (by first | exact wrap_bd _ | exact one_bd | exact nil_bd | exact Bn1 | exact Bn2) (by first | exact wrap_bd _ | exact one_bd | exact nil_bd | exact Bn1 | exact Bn2)).mono ?_
                    rintro e w6 ⟨rfl, hb6⟩
                    have HB6 := Lib.hid (trans0 hb6 HB5.out)
                    clear hb6 HB5
                    go_wp2_with fail
                    have HB7 := HB6
                    clear HB6
                    go_roundw
                    case rel => first | exact ⟨_, by go_light; omega, by go_light; omega, rfl, HB7.out⟩ | ((repeat apply Exists.intro); exact ⟨⟨_, by go_light; omega, by go_light; omega, rfl, HB7.out⟩, rfl⟩)
                    case measure => go_light; simp [intOf]; omega
                  · go_wp2_with fail
                    refine (ringsA r n k _ ⟨hr, ⟨n0, n1⟩, k0, k1⟩).mono ?_
                    rintro e w5 ⟨rfl, hb5⟩
                    have HB5 := Lib.hid (trans0 hb5 HB.out)
                    clear hb5 HB
                    go_wp2_with fail
                    refine (ringsG3 r _ _ _ _ _ _ hr (by first | exact wrap_bd _ | exact one_bd | exact nil_bd | exact Bn1 | exact Bn2) (by first | exact wrap_bd _ | exact one_bd | exact nil_bd | exact Bn1 | exact Bn2) (by first | exact wrap_bd _ | exact one_bd | exact nil_bd | exact Bn1 | exact Bn2) (by first | exact wrap_bd _ | exact one_bd | exact nil_bd | exact Bn1 | exact Bn2) (by first | exact wrap_bd _ | exact one_bd | exact nil_bd | exact Bn1 | exact Bn2)).mono ?_
                    rintro e w6 ⟨rfl, hb6⟩
                    have HB6 := Lib.hid (trans0 hb6 HB5.out)
                    clear hb6 HB5
                    go_wp2_with fail
                    refine (ringsG0 r _ _ _ hr (by first | exact wrap_bd _ | exact one_bd | exact nil_bd | exact Bn1 | exact Bn2) (by first | exact wrap_bd _ | exact one_bd | exact nil_bd | exact Bn1 | exact Bn2)).mono ?_
                    rintro e w7 ⟨rfl, hb7⟩
                    have HB7 := Lib.hid (trans0 hb7 HB6.out)
                    clear hb7 HB6
                    go_wp2_with fail
                    go_roundw
                    case rel => first | exact ⟨_, by go_light; omega, by go_light; omega, rfl, HB7.out⟩ | ((repeat apply Exists.intro); exact ⟨⟨_, by go_light; omega, by go_light; omega, rfl, HB7.out⟩, rfl⟩)
                    case measure => go_light; simp [intOf]; omega
              · subst hr1
                · cases hnk : (n == k)
                  · go_wp2_with fail
                    refine (ringsA 1 n k _ ⟨hr, ⟨n0, n1⟩, k0, k1⟩).mono ?_
                    rintro e w5 ⟨rfl, hb5⟩
                    have HB5 := Lib.hid (trans0 hb5 HB.out)
                    clear hb5 HB
                    go_wp2_with fail
                    refine (ringsG3 1 _ _ _ _ _ _ hr (by first | exact wrap_bd _ | exact one_bd | exact nil_bd | exact Bn1 | exact Bn2) (by first | exact wrap_bd _ | exact one_bd | exact nil_bd | exact Bn1 | exact Bn2) (by first | exact wrap_bd _ | exact one_bd | exact nil_bd | exact Bn1 | exact Bn2) (by first | exact wrap_bd _ | exact one_bd | exact nil_bd | exact Bn1 | exact Bn2) (by first | exact wrap_bd _ | exact one_bd | exact nil_bd | exact Bn1 | exact Bn2)).mono ?_
                    rintro e w6 ⟨rfl, hb6⟩
                    have HB6 := Lib.hid (trans0 hb6 HB5.out)
                    clear hb6 HB5
                    go_wp2_with fail
                    have HB7 := HB6
                    clear HB6
                    go_roundw
                    case rel => first | exact ⟨_, by go_light; omega, by go_light; omega, rfl, HB7.out⟩ | ((repeat apply Exists.intro); exact ⟨⟨_, by go_light; omega, by go_light; omega, rfl, HB7.out⟩, rfl⟩)
                    case measure => go_light; simp [intOf]; omega
                  · go_wp2_with fail
                    refine (ringsA 1 n k _ ⟨hr, ⟨n0, n1⟩, k0, k1⟩).mono ?_
                    rintro e w5 ⟨rfl, hb5⟩
                    have HB5 := Lib.hid (trans0 hb5 HB.out)
                    clear hb5 HB
                    go_wp2_with fail
                    refine (ringsG3 1 _ _ _ _ _ _ hr (by first | exact wrap_bd _ | exact one_bd | exact nil_bd | exact Bn1 | exact Bn2) (by first | exact wrap_bd _ | exact one_bd | exact nil_bd | exact Bn1 | exact Bn2) (by first | exact wrap_bd _ | exact one_bd | exact nil_bd | exact Bn1 | exact Bn2) (by first | exact wrap_bd _ | exact one_bd | exact nil_bd | exact Bn1 | exact Bn2) (by first | exact wrap_bd _ | exact one_bd | exact nil_bd | exact Bn1 | exact Bn2)).mono ?_
                    rintro e w6 ⟨rfl, hb6⟩
                    have HB6 := Lib.hid (trans0 hb6 HB5.out)
                    clear hb6 HB5
                    go_wp2_with fail
                    refine (ringsG0 1 _ _ _ hr (by first | exact wrap_bd _ | exact one_bd | exact nil_bd | exact Bn1 | exact Bn2) (by first | exact wrap_bd _ | exact one_bd | exact nil_bd | exact Bn1 | exact Bn2)).mono ?_
                    rintro e w7 ⟨rfl, hb7⟩
                    have HB7 := Lib.hid (trans0 hb7 HB6.out)
                    clear hb7 HB6
                    go_wp2_with fail
                    go_roundw
                    case rel => first | exact ⟨_, by go_light; omega, by go_light; omega, rfl, HB7.out⟩ | ((repeat apply Exists.intro); exact ⟨⟨_, by go_light; omega, by go_light; omega, rfl, HB7.out⟩, rfl⟩)
                    case measure => go_light; simp [intOf]; omega
              · · cases hnk : (n == k)
                  · go_wp2_with fail
                    refine (ringsA r n k _ ⟨hr, ⟨n0, n1⟩, k0, k1⟩).mono ?_
                    rintro e w5 ⟨rfl, hb5⟩
                    have HB5 := Lib.hid (trans0 hb5 HB.out)
                    clear hb5 HB
                    go_wp2_with fail
                    refine (ringsG3 r _ _ _ _ _ _ hr (by first | exact wrap_bd _ | exact one_bd | exact nil_bd | exact Bn1 | exact Bn2) (by first | exact wrap_bd _ | exact one_bd | exact nil_bd | exact Bn1 | exact Bn2) (by first | exact wrap_bd _ | exact one_bd | exact nil_bd | exact Bn1 | exact Bn2) (by first | exact wrap_bd _ | exact one_bd | exact nil_bd | exact Bn1 | exact Bn2) (by first | exact wrap_bd _ | exact one_bd | exact nil_bd | exact Bn1 | exact Bn2)).mono ?_
                    rintro e w6 ⟨rfl, hb6⟩
                    have HB6 := Lib.hid (trans0 hb6 HB5.out)
                    clear hb6 HB5
                    go_wp2_with fail
                    have HB7 := HB6
                    clear HB6
                    go_roundw
                    case rel => first | exact ⟨_, by go_light; omega, by go_light; omega, rfl, HB7.out⟩ | ((repeat apply Exists.intro); exact ⟨⟨_, by go_light; omega, by go_light; omega, rfl, HB7.out⟩, rfl⟩)
                    case measure => go_light; simp [intOf]; omega
                  · go_wp2_with fail
                    refine (ringsA r n k _ ⟨hr, ⟨n0, n1⟩, k0, k1⟩).mono ?_
                    rintro e w5 ⟨rfl, hb5⟩
                    have HB5 := Lib.hid (trans0 hb5 HB.out)
                    clear hb5 HB
                    go_wp2_with fail
                    refine (ringsG3 r _ _ _ _ _ _ hr (by first | exact wrap_bd _ | exact one_bd | exact nil_bd | exact Bn1 | exact Bn2) (by first | exact wrap_bd _ | exact one_bd | exact nil_bd | exact Bn1 | exact Bn2) (by first | exact wrap_bd _ | exact one_bd | exact nil_bd | exact Bn1 | exact Bn2) (by first | exact wrap_bd _ | exact one_bd | exact nil_bd | exact Bn1 | exact Bn2) (by first | exact wrap_bd _ | exact one_bd | exact nil_bd | exact Bn1 | exact Bn2)).mono ?_
                    rintro e w6 ⟨rfl, hb6⟩
                    have HB6 := Lib.hid (trans0 hb6 HB5.out)
                    clear hb6 HB5
                    go_wp2_with fail
                    refine (ringsG0 r _ _ _ hr (by first | exact wrap_bd _ | exact one_bd | exact nil_bd | exact Bn1 | exact Bn2) (by first | exact wrap_bd _ | exact one_bd | exact nil_bd | exact Bn1 | exact Bn2)).mono ?_
                    rintro e w7 ⟨rfl, hb7⟩
                    have HB7 := Lib.hid (trans0 hb7 HB6.out)
                    clear hb7 HB6
                    go_wp2_with fail
                    go_roundw
                    case rel => first | exact ⟨_, by go_light; omega, by go_light; omega, rfl, HB7.out⟩ | ((repeat apply Exists.intro); exact ⟨⟨_, by go_light; omega, by go_light; omega, rfl, HB7.out⟩, rfl⟩)
                    case measure => go_light; simp [intOf]; omega
            · rcases (show r < 1 ∨ 1 ≤ r by omega) with hr1 | hr1
              · go_wp2_with fail
                refine (keepsG r n _ _ _ _ hr Bn3 (by first | exact wrap_bd _ | exact Bk1 | exact Bk2 | exact Bk3) (by first | exact wrap_bd _ | exact Bk1 | exact Bk2 | exact Bk3) (by first | exact wrap_bd _ | exact Bk1 | exact Bk2 | exact Bk3)).mono ?_
                rintro e w5 ⟨rfl, hb5⟩
                have HB5 := Lib.hid (trans0 hb5 HB.out)
                clear hb5 HB
                go_wp2_with fail
                refine (playsG r n _ _ hr ⟨n0, n1⟩ (by first | exact wrap_bd _ | exact Bk1)).mono ?_
                rintro e w6 ⟨rfl, hb6⟩
                have HB7 := Lib.hid (trans0 hb6 HB5.out)
                clear hb6 HB5
                go_wp2_with fail
                go_roundw
                case rel => first | exact ⟨_, by go_light; omega, by go_light; omega, rfl, HB7.out⟩ | ((repeat apply Exists.intro); exact ⟨⟨_, by go_light; omega, by go_light; omega, rfl, HB7.out⟩, rfl⟩)
                case measure => go_light; simp [intOf]; omega
              · go_wp2_with fail
                refine (keepsG r n _ _ _ _ hr Bn3 (by first | exact wrap_bd _ | exact Bk1 | exact Bk2 | exact Bk3) (by first | exact wrap_bd _ | exact Bk1 | exact Bk2 | exact Bk3) (by first | exact wrap_bd _ | exact Bk1 | exact Bk2 | exact Bk3)).mono ?_
                rintro e w5 ⟨rfl, hb5⟩
                have HB5 := Lib.hid (trans0 hb5 HB.out)
                clear hb5 HB
                go_wp2_with fail
                refine (playsG r n _ _ hr ⟨n0, n1⟩ (by first | exact wrap_bd _ | exact Bk1)).mono ?_
                rintro e w6 ⟨rfl, hb6⟩
                have HB7 := Lib.hid (trans0 hb6 HB5.out)
                clear hb6 HB5
                go_wp2_with fail
                go_roundw
                case rel => first | exact ⟨_, by go_light; omega, by go_light; omega, rfl, HB7.out⟩ | ((repeat apply Exists.intro); exact ⟨⟨_, by go_light; omega, by go_light; omega, rfl, HB7.out⟩, rfl⟩)
                case measure => go_light; simp [intOf]; omega
        · go_wp2_with fail
          go_roundw
          case rel => first | exact ⟨r + 1, by go_light; omega, by go_light; omega, by go_num, HB.out⟩ | ((repeat apply Exists.intro); exact ⟨⟨r + 1, by go_light; omega, by go_light; omega, by go_num, HB.out⟩, rfl⟩)
          case measure => go_light; simp [intOf]; omega
    · go_wp2_with (first
        | (go_at_call 5; refine (none_any _ _ _ (u64_wf (by omega) (by omega)) (u64_wf (by omega) (by omega))).mono ?_; rintro e w5 ⟨rfl, hb5⟩)
        | (go_at_call 4; refine (plays_any _ _ _ _ (i64_wf (by omega) (by omega)) (u64_wf (by omega) (by omega)) (acts0 _)).mono ?_; rintro e w6 ⟨rfl, hb6⟩)
        | (go_at_call 17; refine (works_any _).mono ?_; rintro e w7 ⟨rfl, hb7⟩))
      go_ret
      have h5 : Below w.heap.size w w5 := HB.out.trans (hb5.mono HB.out.size)
      have h6 : Below w.heap.size w w6 := h5.trans (hb6.mono h5.size)
      exact ⟨rfl, h6.trans (hb7.mono h6.size)⟩
end Go.Proofs.Ytelfkghcgigbjaa
