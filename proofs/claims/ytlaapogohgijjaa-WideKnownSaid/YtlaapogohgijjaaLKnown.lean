/- The examples of the chapter, rows of small circles, and numbers about the bounds: the walk of the closed law WideKnown. Conditions: none. -/
import Derived.Test.YtlaapogohgijjaaLCircles
import Derived.Test.YtlaapogohgijjaaLNone
import Derived.Test.YtlaapogohgijjaaLNexts
import Derived.Test.YtlaapogohgijjaaLRises
import Derived.Deep.RegionHeld3
namespace Go.Proofs.Ytlaapogohgijjaa
open Go.RowKit

theorem u32_wf {x : Int} (h0 : 0 ≤ x) (h1 : x ≤ 4294967295) : (Lit.int .u32 x).wf = true := by
  simp only [Lit.wf, Bool.and_eq_true, decide_eq_true_eq]
  have e1 : IntKind.u32.min = 0 := rfl
  have e2 : IntKind.u32.max = 4294967295 := rfl
  omega
theorem u64_wf {x : Int} (h0 : 0 ≤ x) (h1 : x ≤ 18446744073709551615) : (Lit.int .u64 x).wf = true := by
  simp only [Lit.wf, Bool.and_eq_true, decide_eq_true_eq]
  have e1 : IntKind.u64.min = 0 := rfl
  have e2 : IntKind.u64.max = 18446744073709551615 := rfl
  omega
theorem i64_wf {x : Int} (h0 : -9223372036854775808 ≤ x) (h1 : x ≤ 9223372036854775807) : (Lit.int .i64 x).wf = true := by
  simp only [Lit.wf, Bool.and_eq_true, decide_eq_true_eq]
  have e1 : IntKind.i64.min = -9223372036854775808 := rfl
  have e2 : IntKind.i64.max = 9223372036854775807 := rfl
  omega
theorem u32_wrap_bd (x : Int) : 0 ≤ IntKind.u32.wrap x ∧ IntKind.u32.wrap x ≤ 4294967295 := by rw [IntKind.wrap_u32']; omega
theorem row5 (w : World) (a b c d e : Int) (h : ∀ n ∈ [a, b, c, d, e], 0 ≤ n ∧ n ≤ 4294967295) :
    IsRow .u32 (w.alloc (.cells #[.int .u32 a, .int .u32 b, .int .u32 c, .int .u32 d, .int .u32 e] 22)) (some ⟨w.heap.size, 0, none⟩) 5 5 [a, b, c, d, e] := by
  refine .inr ⟨_, rfl, by omega, by simp [maxLen], rfl, fun i hi => ?_, fun n hn => u32_wf (h n hn).1 (h n hn).2⟩
  simp at hi
  have k := Blk.new w 22 #[.int .u32 a, .int .u32 b, .int .u32 c, .int .u32 d, .int .u32 e]
  rcases (show i = 0 ∨ i = 1 ∨ i = 2 ∨ i = 3 ∨ i = 4 by omega) with rfl | rfl | rfl | rfl | rfl
  · exact k.cell 0
  · exact k.cell 1
  · exact k.cell 2
  · exact k.cell 3
  · exact k.cell 4

theorem row4 (w : World) (a b c d : Int) (h : ∀ n ∈ [a, b, c, d], 0 ≤ n ∧ n ≤ 4294967295) :
    IsRow .u32 (w.alloc (.cells #[.int .u32 a, .int .u32 b, .int .u32 c, .int .u32 d] 22)) (some ⟨w.heap.size, 0, none⟩) 4 4 [a, b, c, d] := by
  refine .inr ⟨_, rfl, by omega, by simp [maxLen], rfl, fun i hi => ?_, fun n hn => u32_wf (h n hn).1 (h n hn).2⟩
  simp at hi
  have k := Blk.new w 22 #[.int .u32 a, .int .u32 b, .int .u32 c, .int .u32 d]
  rcases (show i = 0 ∨ i = 1 ∨ i = 2 ∨ i = 3 by omega) with rfl | rfl | rfl | rfl
  · exact k.cell 0
  · exact k.cell 1
  · exact k.cell 2
  · exact k.cell 3
theorem row4d (w : World) (a b c d : Int) (h : ∀ n ∈ [a, b, c, d], 0 ≤ n ∧ n ≤ 4294967295) :
    IsRow .u32 (w.alloc (.cells #[.int .u32 a, .int .u32 b, .int .u32 c, .int .u32 d] 22)).drew (some ⟨w.heap.size, 0, none⟩) 4 4 [a, b, c, d] := by
  exact row4 w a b c d h
theorem u64_wrap_bd (x : Int) : 0 ≤ IntKind.u64.wrap x ∧ IntKind.u64.wrap x ≤ 18446744073709551615 := by rw [IntKind.wrap_u64]; omega
theorem keep_cell {w w5 : World} {o : Obj} {a : Addr} {v : Value} (hb : Below ((w.alloc o).drew).heap.size (w.alloc o).drew w5) (h : w.cell? a = some v) : w5.cell? a = some v := by
  have hl := block_lt_of_cell h
  exact (hb.cell (by simp; omega)).trans ((World.cell?_alloc_lt w o a hl).trans h)
theorem keep_cell0 {w w5 : World} {a : Addr} {v : Value} (hb : Below w.heap.size w w5) (h : w.cell? a = some v) : w5.cell? a = some v := (hb.cell (block_lt_of_cell h)).trans h
theorem keep_blk {w w5 : World} {o : Obj} {g : Nat} {T : TypeId} {cs : Array Value} (hb : Below ((w.alloc o).drew).heap.size (w.alloc o).drew w5) (h : Blk w g T cs) : Blk w5 g T cs :=
  ((h.alloc o).drew).below hb (by have := h.lt; simp; omega)
theorem keep_below {a w w5 : World} {o : Obj} (hb : Below ((w.alloc o).drew).heap.size (w.alloc o).drew w5) (h : Below a.heap.size a w) : Below a.heap.size a w5 := by
  have hs := h.size
  exact ((h.alloc hs o).drew).trans (hb.mono (by simp; omega))
theorem keep_below0 {a w w5 : World} (hb : Below w.heap.size w w5) (h : Below a.heap.size a w) : Below a.heap.size a w5 := h.trans (hb.mono h.size)
theorem row0 (k : IntKind) (w : World) : IsRow k w none 0 0 [] := .inl ⟨rfl, rfl, rfl, rfl⟩
def LI : List Int := [0, 1, 2, 128, 32767, 32768, 32769, 65535, 65536, 2147483648, 2147483647, 4294967295]
def DI : List Int := [-1, 0, 1, 2, 8, 15, 16, 31, 32, 33]
def li (i : Nat) : Int := LI.getD i 0
def di (i : Nat) : Int := DI.getD i 0
theorem li_bd (i : Nat) : 0 ≤ li i ∧ li i ≤ 4294967295 := by
  rcases Nat.lt_or_ge i 12 with h | h
  · rcases (show i = 0 ∨ i = 1 ∨ i = 2 ∨ i = 3 ∨ i = 4 ∨ i = 5 ∨ i = 6 ∨ i = 7 ∨ i = 8 ∨ i = 9 ∨ i = 10 ∨ i = 11 by omega) with rfl | rfl | rfl | rfl | rfl | rfl | rfl | rfl | rfl | rfl | rfl | rfl <;> decide
  · unfold li LI
    rw [List.getD_eq_getElem?_getD, List.getElem?_eq_none (by simpa using h)]
    simp
theorem di_bd (i : Nat) : -9223372036854775808 ≤ di i ∧ di i ≤ 9223372036854775807 := by
  rcases Nat.lt_or_ge i 10 with h | h
  · rcases (show i = 0 ∨ i = 1 ∨ i = 2 ∨ i = 3 ∨ i = 4 ∨ i = 5 ∨ i = 6 ∨ i = 7 ∨ i = 8 ∨ i = 9 by omega) with rfl | rfl | rfl | rfl | rfl | rfl | rfl | rfl | rfl | rfl <;> decide
  · unfold di DI
    rw [List.getD_eq_getElem?_getD, List.getElem?_eq_none (by simpa using h)]
    simp
theorem cell_of_list {w : World} {g : Nat} {T : TypeId} {k : IntKind} {xs : List Int} (h : Blk w g T ((xs.map (Value.int k)).toArray)) (i : Nat) (hi : i < xs.length) :
    w.cell? ⟨g, i, none⟩ = some (.int k (xs.getD i 0)) := by
  rw [h.cell i]
  simp [List.getD_eq_getElem?_getD, List.getElem?_eq_getElem hi]
theorem two_new (w : World) (cs ds : Array Value) (T U : TypeId) : Blk ((w.alloc (.cells cs T)).alloc (.cells ds U)) w.heap.size T cs ∧ Blk ((w.alloc (.cells cs T)).alloc (.cells ds U)) (w.heap.size + 1) U ds := by
  refine ⟨(Blk.new w T cs).alloc _, ?_⟩
  have h := Blk.new (w.alloc (.cells cs T)) U ds
  rwa [show (w.alloc (.cells cs T)).heap.size = w.heap.size + 1 by simp] at h
theorem row_drop {w : World} {g : Nat} (h : Blk w g 22 ((LI.map (Value.int .u32)).toArray)) (j : Nat) (hj : j < 12) : IsRow .u32 w (some ⟨g, j, none⟩) (12 - j) (12 - j) (LI.drop j) := by
  refine .inr ⟨_, rfl, Nat.le_refl _, by simp [maxLen]; omega, by simp [LI], fun i hi => ?_, fun n hn => ?_⟩
  · have hi' : j + i < LI.length := by simp at hi; omega
    have e : (Addr.add ⟨g, j, none⟩ i) = ⟨g, j + i, none⟩ := by unfold Addr.add; split <;> simp [*]
    rw [e, cell_of_list h (j + i) hi']
    simp [List.getD_eq_getElem?_getD, List.getElem?_drop]
  · have hm := List.mem_of_mem_drop hn
    simp [LI] at hm
    rcases hm with rfl | rfl | rfl | rfl | rfl | rfl | rfl | rfl | rfl | rfl | rfl | rfl <;> exact u32_wf (by omega) (by omega)
set_option maxHeartbeats 4000000 in
set_option maxRecDepth 100000 in
theorem known_any (w : World) : Calls Try.prog 7 #[] w fun e w' => e = .returned (.bool true) ∧ Below w.heap.size w w' := by
  go_enter Try.func7, Try.ntmps7
  go_wp2_with fail
  go_loopw [1] (fun v wr => ∃ k : Nat, 1 ≤ k ∧ k ≤ 4 ∧ v = .int .i64 k ∧ Below w.heap.size w wr) (fun v _ => 4 - (intOf v).toNat)
  case atStart => exact ⟨1, by omega, by omega, rfl, Below.refl _ _⟩
  case round =>
    obtain ⟨k, k1, k4, rfl, hB⟩ := hrel
    by_cases hlt : k < 4
    · have hlt' : (k : Int) < 4 := by omega
      have HB := Lib.hid hB
      clear hB
      go_wp2_with fail
      obtain ⟨c, hc⟩ : ∃ c : Int, (2 : Int) ^ k % 4294967296 = c := ⟨_, rfl⟩
      have c0 : 0 ≤ c := by omega
      have c1 : c ≤ 4294967295 := by omega
      rw [hc]
      clear hc
      obtain ⟨wo, hwo⟩ : ∃ wo : World, wo = wr := ⟨_, rfl⟩
      subst hwo
      go_loopw [3] (fun v wr => ∃ a : Int, 0 ≤ a ∧ a ≤ c ∧ v = .int .u32 a ∧ Below w.heap.size w wr) (fun v _ => (c - intOf v).toNat)
      case atStart => exact ⟨0, by omega, by omega, rfl, HB.out⟩
      case round =>
        obtain ⟨a, a0, a1, rfl, hB⟩ := hrel
        clear HB
        have HB := Lib.hid hB
        clear hB
        by_cases hla : a < c
        · go_wp2_with fail
          obtain ⟨wp, hwp⟩ : ∃ wp : World, wp = wr := ⟨_, rfl⟩
          subst hwp
          go_loopw [4] (fun v wr => ∃ b : Int, 0 ≤ b ∧ b ≤ c ∧ v = .int .u32 b ∧ Below w.heap.size w wr) (fun v _ => (c - intOf v).toNat)
          case atStart => exact ⟨0, by omega, by omega, rfl, HB.out⟩
          case round =>
            obtain ⟨b, b0, b1, rfl, hB⟩ := hrel
            clear HB
            have HB := Lib.hid hB
            clear hB
            by_cases hlb : b < c
            · go_wp2_with fail
              obtain ⟨wq, hwq⟩ : ∃ wq : World, wq = wr := ⟨_, rfl⟩
              subst hwq
              go_loopw [5] (fun v wr => ∃ d : Int, 0 ≤ d ∧ d ≤ c ∧ v = .int .u32 d ∧ Below w.heap.size w wr) (fun v _ => (c - intOf v).toNat)
              case atStart => exact ⟨0, by omega, by omega, rfl, HB.out⟩
              case round =>
                obtain ⟨d, d0, d1, rfl, hB⟩ := hrel
                clear HB
                have HB := Lib.hid hB
                clear hB
                by_cases hld : d < c
                · have x0 := u32_wrap_bd (b + c)
                  have y0 := u32_wrap_bd (a * b)
                  have z0 := u32_wrap_bd (b + IntKind.u32.wrap (c * d))
                  go_wp2_with fail
                  refine (nexts_any _ _ _ _ [a, b, d, (b + c) % 4294967296, a] _ _ _ (i64_wf (by omega) (by omega)) (row5 _ _ _ _ _ _ (by simp; omega)) (u32_wf (by omega) (by omega)) (u64_wf (by omega) (by omega))).mono ?_
                  rintro e w5 ⟨rfl, hb5⟩
                  have hB5 : Below w.heap.size w w5 := (HB.out.alloc HB.out.size _).trans (hb5.mono (by have := HB.out.size; simp; omega))
                  clear hb5 HB
                  have HB := Lib.hid hB5
                  clear hB5
                  go_wp2_with fail
                  refine (circles_any _ _ _ _ (i64_wf (by omega) (by omega)) (u32_wf (by omega) (by omega)) (u32_wf (by omega) (by omega))).mono ?_
                  rintro e w6 ⟨rfl, hb6⟩
                  have hB6 : Below w.heap.size w w6 := HB.out.trans (hb6.mono HB.out.size)
                  clear hb6 HB
                  have HB := Lib.hid hB6
                  clear hB6
                  go_wp2
                  go_roundw
                  case rel => first | exact ⟨d + 1, by omega, by omega, by go_num, HB.out⟩ | ((repeat apply Exists.intro); exact ⟨⟨d + 1, by omega, by omega, by go_num, HB.out⟩, rfl⟩)
                  case measure => simp [intOf]; omega
                · go_wp2_with fail
                  go_roundw
                  case rel => first | exact ⟨b + 1, by omega, by omega, by go_num, HB.out⟩ | ((repeat apply Exists.intro); exact ⟨⟨b + 1, by omega, by omega, by go_num, HB.out⟩, rfl⟩)
                  case measure => simp [intOf]; omega
            · go_wp2_with fail
              go_roundw
              case rel => first | exact ⟨a + 1, by omega, by omega, by go_num, HB.out⟩ | ((repeat apply Exists.intro); exact ⟨⟨a + 1, by omega, by omega, by go_num, HB.out⟩, rfl⟩)
              case measure => simp [intOf]; omega
        · go_wp2_with fail
          go_roundw
          case rel => first | exact ⟨k + 1, by omega, by omega, by go_num, HB.out⟩ | ((repeat apply Exists.intro); exact ⟨⟨k + 1, by omega, by omega, by go_num, HB.out⟩, rfl⟩)
          case measure => simp [intOf]; omega
    · have HB := Lib.hid hB
      clear hB
      go_wp2_with fail
      obtain ⟨w2, hw2⟩ : ∃ w2 : World, (wr.alloc (.cells ((LI.map (Value.int .u32)).toArray) 22)).alloc (.cells ((DI.map (Value.int .i64)).toArray) 3) = w2 := ⟨_, rfl⟩
      have k1 := two_new wr ((LI.map (Value.int .u32)).toArray) ((DI.map (Value.int .i64)).toArray) 22 3
      have hB2 : Below w.heap.size w w2 := by rw [← hw2]; exact (HB.out.alloc HB.out.size _).alloc (by have := HB.out.size; simp; omega) _
      have hlb := HB.out.size
      rw [hw2] at k1
      obtain ⟨kL, kD⟩ := k1
      clear HB
      have HW := Lib.hid hw2
      clear hw2
      have hgoal := HW.out
      simp only [LI, DI, List.map_cons, List.map_nil] at hgoal
      rw [hgoal]
      clear hgoal HW
      generalize wr.heap.size = lb at *
      have hb2 := Lib.hid hB2
      have KL := Lib.hid kL
      have KD := Lib.hid kD
      clear hB2 kL kD
      go_loopw [62] (fun v wr => ∃ p : Nat, p ≤ 10 ∧ v = .int .i64 p ∧ Blk wr lb 22 ((LI.map (Value.int .u32)).toArray) ∧ Blk wr (lb + 1) 3 ((DI.map (Value.int .i64)).toArray) ∧ Below w.heap.size w wr) (fun v _ => 10 - (intOf v).toNat)
      case atStart => exact ⟨0, by omega, rfl, KL.out, KD.out, hb2.out⟩
      case round =>
        obtain ⟨p, hp, rfl, kL, kD, hB⟩ := hrel
        clear KL KD hb2
        have HB := Lib.hid hB
        have KL := Lib.hid kL
        have KD := Lib.hid kD
        clear hB kL kD
        by_cases hlp : p < 10
        · have hlp' : (p : Int) < 10 := by omega
          have cd := cell_of_list KD.out p hlp
          rw [show DI.getD p 0 = di p from rfl] at cd
          have db := di_bd p
          obtain ⟨db0, db1⟩ := db
          generalize di p = δ at *
          go_wp2_with fail
          clear cd
          obtain ⟨wo, hwo⟩ : ∃ wo : World, wo = wr := ⟨_, rfl⟩
          subst hwo
          go_loopw [9] (fun v wr => ∃ i : Nat, i ≤ 12 ∧ v = .int .i64 i ∧ Blk wr lb 22 ((LI.map (Value.int .u32)).toArray) ∧ Blk wr (lb + 1) 3 ((DI.map (Value.int .i64)).toArray) ∧ Below w.heap.size w wr) (fun v _ => 12 - (intOf v).toNat)
          case atStart => exact ⟨0, by omega, rfl, KL.out, KD.out, HB.out⟩
          case round =>
            obtain ⟨i, hi, rfl, kL, kD, hB⟩ := hrel
            clear KL KD HB
            have HB := Lib.hid hB
            have KL := Lib.hid kL
            have KD := Lib.hid kD
            clear hB kL kD
            by_cases hli : i < 12
            · have hli' : (i : Int) < 12 := by omega
              go_wp2_with fail
              obtain ⟨wp, hwp⟩ : ∃ wp : World, wp = wr := ⟨_, rfl⟩
              subst hwp
              go_loopw [10] (fun v wr => ∃ j : Nat, j ≤ 12 ∧ v = .int .i64 j ∧ Blk wr lb 22 ((LI.map (Value.int .u32)).toArray) ∧ Blk wr (lb + 1) 3 ((DI.map (Value.int .i64)).toArray) ∧ Below w.heap.size w wr) (fun v _ => 12 - (intOf v).toNat)
              case atStart => exact ⟨0, by omega, rfl, KL.out, KD.out, HB.out⟩
              case round =>
                obtain ⟨j, hj, rfl, kL, kD, hB⟩ := hrel
                clear KL KD HB
                have HB := Lib.hid hB
                have KL := Lib.hid kL
                have KD := Lib.hid kD
                clear hB kL kD
                by_cases hlj : j < 12
                · have ci : wr.cell? ⟨lb, i, none⟩ = some (.int .u32 (li i)) := cell_of_list KL.out i hli
                  have cj : wr.cell? ⟨lb, j, none⟩ = some (.int .u32 (li j)) := cell_of_list KL.out j hlj
                  obtain ⟨m, hm⟩ : ∃ m : Nat, (i + j) % 12 = m := ⟨_, rfl⟩
                  have hm12 : m < 12 := by omega
                  have cm : wr.cell? ⟨lb, m, none⟩ = some (.int .u32 (li m)) := cell_of_list KL.out _ hm12
                  obtain ⟨i0, i1⟩ := li_bd i
                  obtain ⟨j0, j1⟩ := li_bd j
                  obtain ⟨m0, m1⟩ := li_bd m
                  have hl := KL.out.lt
                  have hlj' : (j : Int) < 12 := by omega
                  have hm' : (m : Int) < 12 := by omega
                  have gi : (0 : Int) ≤ (i : Int) := by omega
                  have hj12 : (j : Int) ≤ 12 := by omega
                  have hi12 : (i : Int) ≤ 12 := by omega
                  have hnj : ¬ (12 = j) := by omega
                  have hni : ¬ (12 = i) := by omega
                  have gj : (0 : Int) ≤ (j : Int) := by omega
                  have gm : (0 : Int) ≤ (m : Int) := by omega
                  have e1 : IntKind.i64.wrap ((i : Int) + (j : Int)) = (i : Int) + (j : Int) := by exact IntWalk.i64_in _ (by omega)
                  have e2 : ((i : Int) + (j : Int)).tmod 12 = (m : Int) := by rw [Int.tmod_eq_emod_of_nonneg (by omega)]; omega
                  clear hm
                  go_wp2_with fail
                  go_region_held3 (fun w' => w'.cell? ⟨lb, i, none⟩ = some (.int .u32 (li i)) ∧ w'.cell? ⟨lb, j, none⟩ = some (.int .u32 (li j)) ∧ w'.cell? ⟨lb, m, none⟩ = some (.int .u32 (li m))) (go_keep)
                    (first
                      | (go_at_call 4; refine (nexts_any _ _ _ _ [li i, li j, li m, li i] _ _ _ (i64_wf (by omega) (by omega)) (row4d _ _ _ _ _ (by simp; omega)) (u32_wf (by omega) (by omega)) (u64_wf (u64_wrap_bd _).1 (u64_wrap_bd _).2)).mono ?_; rintro e w5 ⟨rfl, hb5⟩; have t1 := keep_cell hb5 ci; have t2 := keep_cell hb5 cj; have t3 := keep_cell hb5 cm; have KL5 := Lib.hid (keep_blk hb5 KL.out); have KD5 := Lib.hid (keep_blk hb5 KD.out); have HB5 := Lib.hid (keep_below hb5 HB.out); clear hb5)
                      | (go_at_call 3; refine (circles_any _ _ _ _ (i64_wf (by omega) (by omega)) (u32_wf (by omega) (by omega)) (u32_wf (by omega) (by omega))).mono ?_; rintro e w6 ⟨rfl, hb6⟩; have t4 := keep_cell0 hb6 t1; have t5 := keep_cell0 hb6 t2; have t6 := keep_cell0 hb6 t3; have KL6 := Lib.hid (KL5.out.below hb6 KL5.out.lt); have KD6 := Lib.hid (KD5.out.below hb6 KD5.out.lt); have HB6 := Lib.hid (keep_below0 hb6 HB5.out); clear hb6)
                      | (go_at_call 5; refine (rises_any _ _ _ _ _ (LI.drop j) _ _ _ (LI.drop i) _ (i64_wf (by omega) (by omega)) (u32_wf (by omega) (by omega)) (row_drop KL6.out j hlj) (row_drop KL6.out i hli)).mono ?_; rintro e w7 ⟨rfl, hb7⟩; have t7 := keep_cell0 hb7 t4; have t8 := keep_cell0 hb7 t5; have t9 := keep_cell0 hb7 t6; have KL7 := Lib.hid (KL6.out.below hb7 KL6.out.lt); have KD7 := Lib.hid (KD6.out.below hb7 KD6.out.lt); have HB7 := Lib.hid (keep_below0 hb7 HB6.out); clear hb7))
                  go_wp2_with fail
                  go_roundw
                  case rel => first | exact ⟨j + 1, by omega, by go_num, KL7.out, KD7.out, HB7.out⟩ | ((repeat apply Exists.intro); exact ⟨⟨j + 1, by omega, by go_num, KL7.out, KD7.out, HB7.out⟩, rfl⟩)
                  case measure => simp [intOf]; omega
                · go_wp2_with fail
                  go_roundw
                  case rel => first | exact ⟨i + 1, by omega, by go_num, KL.out, KD.out, HB.out⟩ | ((repeat apply Exists.intro); exact ⟨⟨i + 1, by omega, by go_num, KL.out, KD.out, HB.out⟩, rfl⟩)
                  case measure => simp [intOf]; omega
            · go_wp2_with fail
              go_roundw
              case rel => first | exact ⟨p + 1, by omega, by go_num, KL.out, KD.out, HB.out⟩ | ((repeat apply Exists.intro); exact ⟨⟨p + 1, by omega, by go_num, KL.out, KD.out, HB.out⟩, rfl⟩)
              case measure => simp [intOf]; omega
        · have e : p = 10 := by omega
          subst e
          go_wp2_with (first
            | (go_at_call 6; refine (none_any _ _ _ (u32_wf (by omega) (by omega)) (u64_wf (by omega) (by omega))).mono ?_; rintro e w5 ⟨rfl, hb5⟩)
            | (go_at_call 5; refine (rises_any _ _ _ _ _ _ _ _ _ _ _ (i64_wf (by omega) (by omega)) (u32_wf (by omega) (by omega)) (row0 _ _) (row0 _ _)).mono ?_; rintro e w6 ⟨rfl, hb6⟩)
            | (go_at_call 12; refine (works_any _).mono ?_; rintro e w7 ⟨rfl, hb7⟩))
          go_ret
          have h5 : Below w.heap.size w w5 := HB.out.trans (hb5.mono HB.out.size)
          have h6 : Below w.heap.size w w6 := h5.trans (hb6.mono h5.size)
          exact ⟨rfl, h6.trans (hb7.mono h6.size)⟩
end Go.Proofs.Ytlaapogohgijjaa
