/- The filter's other functions, by contracts. Conditions: numbers of their kinds. -/
import Derived.Test.YtnodnngakopooaaCFrame
namespace Go.Proofs.Ytnodnngakopooaa
open Go.RowKit

def new : Fl := ⟨false, 0, false, false, false, false, 3, -1, true⟩
theorem new_any (w : World) : Calls Try.prog 11 #[] w fun e w' => e = .returned (P w.heap.size) ∧ w' = w.alloc (.cells new.cells 59) := by
  unfold P
  go_enter Try.func11, Try.ntmps11
  go_wp2
  go_ret
  exact ⟨rfl, rfl⟩
theorem now_any (b : Nat) (f : Fl) (w : World) (h : Fb w b f) : Calls Try.prog 12 #[P b] w fun e w' => e = .returned (.int .i64 f.now) ∧ w = w' := by
  obtain ⟨c0, c1, c2, c3, c4, c5, c6, c7, c8⟩ := fcells h
  clear h
  unfold P
  go_enter Try.func12, Try.ntmps12
  go_wp2
  go_ret
  exact ⟨rfl, rfl⟩
theorem asked_any (b : Nat) (f : Fl) (w : World) (h : Fb w b f) : Calls Try.prog 19 #[P b] w fun e w' => e = .returned (.int .i64 f.asked) ∧ w = w' := by
  obtain ⟨c0, c1, c2, c3, c4, c5, c6, c7, c8⟩ := fcells h
  clear h
  unfold P
  go_enter Try.func19, Try.ntmps19
  go_wp2
  go_ret
  exact ⟨rfl, rfl⟩
theorem stopped_any (b : Nat) (f : Fl) (w : World) (h : Fb w b f) : Calls Try.prog 13 #[P b] w fun e w' => e = .returned (.bool f.stopped) ∧ w = w' := by
  obtain ⟨c0, c1, c2, c3, c4, c5, c6, c7, c8⟩ := fcells h
  clear h
  unfold P
  go_enter Try.func13, Try.ntmps13
  go_wp2
  go_ret
  exact ⟨rfl, rfl⟩
theorem halt_any (b : Nat) (f : Fl) (w : World) (h : Fb w b f) : Calls Try.prog 17 #[P b] w fun e w' => e = .returned (.tuple #[]) ∧ Fb w' b { f with stopped := true } ∧ w.grownBy w' (some b) := by
  have HH := Lib.hid h
  obtain ⟨c0, c1, c2, c3, c4, c5, c6, c7, c8⟩ := fcells h
  have f8 := h.frozen 8
  clear h
  unfold P
  go_enter Try.func17, Try.ntmps17
  go_wp2
  go_end0
  exact ⟨rfl, HH.out.set_ 8 (.bool true), only_setCell (p := ⟨b, 8, none⟩) (World.grownBy.refl w _) (.inl rfl) _⟩
theorem copy_any (b : Nat) (f : Fl) (w : World) (h : Fb w b f) : Calls Try.prog 24 #[P b] w fun e w' => e = .returned (P w.heap.size) ∧ w' = w.alloc (.cells f.cells 59) := by
  obtain ⟨c0, c1, c2, c3, c4, c5, c6, c7, c8⟩ := fcells h
  have hl := h.lt
  clear h
  unfold P
  rw [show f.cells = #[.bool f.told, .int .u8 f.num, .bool f.m0, .bool f.m1, .bool f.m2, .bool f.m3, .int .i64 f.asked, .int .i64 f.now, .bool f.stopped] from rfl]
  go_enter Try.func24, Try.ntmps24
  go_wp2
  go_ret
  exact ⟨rfl, rfl⟩
/-- A number brought to 0 to n - 1. -/
def pick (a n : Int) : Int := (wrap64 (a.tmod n + n)).tmod n
theorem pick_bd (a n : Int) (n0 : 1 ≤ n) (n1 : n ≤ 4294967296) : 0 ≤ pick a n ∧ pick a n < n := by
  have h1 := Int.tmod_lt_of_pos a (show 0 < n by omega)
  have h2 : -n < a.tmod n := by
    have := Int.tmod_lt_of_pos (-a) (show 0 < n by omega)
    rw [Int.neg_tmod] at this
    omega
  have e : wrap64 (a.tmod n + n) = a.tmod n + n := by unfold wrap64; omega
  unfold pick
  rw [e]
  exact ⟨Int.tmod_nonneg _ (by omega), Int.tmod_lt_of_pos _ (by omega)⟩
theorem pick_lit {a n p : Int} (hv : pick a n = p) (w : World) (n0 : 1 ≤ n) : Calls Try.prog 14 #[.int .i64 a, .int .i64 n] w fun e w' => e = .returned (.int .i64 p) ∧ w = w' := by
  subst hv
  go_enter Try.func14, Try.ntmps14
  go_wp2
  go_ret
  exact ⟨rfl, rfl⟩
/-- A cap asked for. -/
def capN (n : Int) : Int := max (-1) (min n 3)
def Fl.cap (f : Fl) (n : Int) : Fl := { f with asked := capN n, now := min f.now (capN n), stopped := f.stopped || decide (min f.now (capN n) < 0) }
theorem cap_bd (n : Int) : -1 ≤ capN n ∧ capN n ≤ 3 := by unfold capN; omega
theorem cap_set {w : World} {b : Nat} {f : Fl} (h : Fb w b f) (a n : Int) (s : Bool) :
    Fb (((w.setCell ⟨b, 6, none⟩ (.int .i64 a)).setCell ⟨b, 7, none⟩ (.int .i64 n)).setCell ⟨b, 8, none⟩ (.bool s)) b { f with asked := a, now := n, stopped := s } ∧
    w.grownBy (((w.setCell ⟨b, 6, none⟩ (.int .i64 a)).setCell ⟨b, 7, none⟩ (.int .i64 n)).setCell ⟨b, 8, none⟩ (.bool s)) (some b) :=
  ⟨((h.set_ 6 (.int .i64 a)).set_ 7 (.int .i64 n)).set_ 8 (.bool s), only_setCell (p := ⟨b, 8, none⟩) (only_setCell (p := ⟨b, 7, none⟩) (only_setCell (p := ⟨b, 6, none⟩) (World.grownBy.refl w _) (.inl rfl) _) (.inl rfl) _) (.inl rfl) _⟩
theorem cap_any (b : Nat) (f : Fl) (n : Int) (w : World) (h : Fb w b f) : Calls Try.prog 16 #[P b, .int .i64 n] w fun e w' => e = .returned (.tuple #[]) ∧ Fb w' b (f.cap n) ∧ w.grownBy w' (some b) := by
  have HH := Lib.hid h
  obtain ⟨c0, c1, c2, c3, c4, c5, c6, c7, c8⟩ := fcells h
  have f6 := h.frozen 6
  have f7 := h.frozen 7
  have f8 := h.frozen 8
  clear h
  obtain ⟨c, hc, hcc⟩ : ∃ c, capN n = c ∧ (3 < n ∧ c = 3 ∨ (-1 < n ∧ n ≤ 3) ∧ c = n ∨ n ≤ -1 ∧ c = -1) := ⟨_, rfl, by unfold capN; omega⟩
  obtain ⟨m, hm, hmm⟩ : ∃ m, min f.now c = m ∧ (f.now ≤ c ∧ m = f.now ∨ c < f.now ∧ m = c) := ⟨_, rfl, by omega⟩
  have hs : f.cap n = { f with asked := c, now := m, stopped := f.stopped || decide (m < 0) } := by unfold Fl.cap; rw [hc, hm]
  rw [hs]
  generalize f.stopped = st at c8 ⊢
  have HS := Lib.hid (cap_set HH.out c m (st || decide (m < 0)))
  clear hc hm hs
  unfold P
  rcases hcc with ⟨g, rfl⟩ | ⟨g, rfl⟩ | ⟨g, rfl⟩
  all_goals rcases hmm with ⟨g', rfl⟩ | ⟨g', rfl⟩
  all_goals cases st
  all_goals (
    go_enter Try.func16, Try.ntmps16
    go_wp2)
  all_goals go_region
  all_goals go_wp2
  all_goals go_end0
  all_goals (
    have h := HS.out
    simp only [Bool.false_or, Bool.true_or] at h ⊢
    first
      | exact ⟨by trivial, Blk.drew h.1, only_drew h.2⟩
      | exact ⟨by trivial, Blk.drew (Blk.drew h.1), only_drew (only_drew h.2)⟩
      | exact ⟨by trivial, h.1, h.2⟩)
/-- A loss. -/
def Fl.lost (f : Fl) (known : Bool) (tid : Int) (drop : Bool) : Fl × Bool :=
  if f.stopped then (f, false)
  else if known && drop then (if min tid 3 = 0 then ({ f with now := 0, m0 := false, m1 := true, m2 := true, m3 := true }, false) else (f, false))
  else if known && decide (min tid 3 > f.now) then (f.miss (min tid 3) true, false)
  else ({ f with stopped := true }, true)
theorem lost_nil (known : Bool) (tid : Int) (drop : Bool) (w : World) (t0 : 0 ≤ tid) (t1 : tid ≤ 255) : Calls Try.prog 15 #[.pointer none, .bool known, .int .u8 tid, .bool drop] w fun e w' => e = .returned (.bool false) ∧ Below w.heap.size w w' := by
  have HL := fun W => ly_any ⟨false, tid, false, false, false, 0⟩ W ⟨⟨t0, t1⟩, by simp⟩
  simp only [Fa.cells] at HL
  go_enter Try.func15, Try.ntmps15
  go_wp2_with fail
  refine (HL _).mono ?_
  rintro e w1 ⟨rfl, hb⟩
  have HB := Lib.hid hb
  clear hb HL
  go_wp2_with fail
  go_ret
  exact ⟨rfl, HB.out⟩

theorem zero_set {w : World} {b : Nat} {f : Fl} (h : Fb w b f) :
    Fb (((((w.setCell ⟨b, 7, none⟩ (.int .i64 0)).setCell ⟨b, 2, none⟩ (.bool false)).setCell ⟨b, 3, none⟩ (.bool true)).setCell ⟨b, 4, none⟩ (.bool true)).setCell ⟨b, 5, none⟩ (.bool true)) b { f with now := 0, m0 := false, m1 := true, m2 := true, m3 := true } ∧
    w.grownBy (((((w.setCell ⟨b, 7, none⟩ (.int .i64 0)).setCell ⟨b, 2, none⟩ (.bool false)).setCell ⟨b, 3, none⟩ (.bool true)).setCell ⟨b, 4, none⟩ (.bool true)).setCell ⟨b, 5, none⟩ (.bool true)) (some b) := by
  refine ⟨((((h.set_ 7 (.int .i64 0)).set_ 2 (.bool false)).set_ 3 (.bool true)).set_ 4 (.bool true)).set_ 5 (.bool true), ?_⟩
  refine only_setCell (p := ⟨b, 5, none⟩) ?_ (.inl rfl) _
  refine only_setCell (p := ⟨b, 4, none⟩) ?_ (.inl rfl) _
  refine only_setCell (p := ⟨b, 3, none⟩) ?_ (.inl rfl) _
  refine only_setCell (p := ⟨b, 2, none⟩) ?_ (.inl rfl) _
  exact only_setCell (p := ⟨b, 7, none⟩) (World.grownBy.refl w _) (.inl rfl) _
theorem at_frozen {w : World} {b : Nat} {f : Fl} (h : Fb w b f) (t : Nat) : w.frozen? ⟨b, 2 + t, none⟩ = false := h.frozen _
theorem miss_put {w : World} {b : Nat} {f : Fl} (h : Fb w b f) (t : Nat) (h1 : 1 ≤ t) (h3 : t ≤ 3) :
    Fb (w.setCell ⟨b, 2 + t, none⟩ (.bool true)) b (f.miss t true) ∧ w.grownBy (w.setCell ⟨b, 2 + t, none⟩ (.bool true)) (some b) := by
  refine ⟨?_, only_setCell (p := ⟨b, 2 + t, none⟩) (World.grownBy.refl w _) (.inl rfl) _⟩
  have hs := h.set_ (2 + t) (.bool true)
  rcases (show t = 1 ∨ t = 2 ∨ t = 3 by omega) with rfl | rfl | rfl
  · show Fb _ b { f with m1 := f.m1 || true }
    rw [Bool.or_true]; exact hs
  · show Fb _ b { f with m2 := f.m2 || true }
    rw [Bool.or_true]; exact hs
  · show Fb _ b { f with m3 := f.m3 || true }
    rw [Bool.or_true]; exact hs
set_option maxHeartbeats 1000000 in
theorem lost_any (b : Nat) (f : Fl) (known : Bool) (tid : Int) (drop : Bool) (w : World) (t0 : 0 ≤ tid) (t1 : tid ≤ 255) (hf' : f.ok) (h : Fb w b f) : Calls Try.prog 15 #[P b, .bool known, .int .u8 tid, .bool drop] w fun e w' => e = .returned (.bool (f.lost known tid drop).2) ∧ Fb w' b (f.lost known tid drop).1 ∧ w.grownBy w' (some b) := by
  have HL := fun W => ly_any ⟨false, tid, false, false, false, 0⟩ W ⟨⟨t0, t1⟩, by simp⟩
  simp only [Fa.cells, Bool.false_eq_true, if_false] at HL
  obtain ⟨m, hm, m0, m3⟩ : ∃ m : Nat, min tid 3 = m ∧ 0 ≤ (m : Int) ∧ (m : Int) ≤ 3 := ⟨(min tid 3).toNat, by omega, by omega, by omega⟩
  rw [hm] at HL
  have hnow : f.stopped = false → 0 ≤ f.now := by
    intro hs
    have h1 := hf'.2.2
    have h2 := hf'.2.1.1
    rcases Int.lt_or_le f.now 0 with h | h
    · have := h1 (by omega); rw [hs] at this; cases this
    · exact h
  have hlost : f.lost known tid drop = if f.stopped then (f, false)
      else if known && drop then (if (m : Int) = 0 then ({ f with now := 0, m0 := false, m1 := true, m2 := true, m3 := true }, false) else (f, false))
      else if known && decide ((m : Int) > f.now) then (f.miss m true, false)
      else ({ f with stopped := true }, true) := by unfold Fl.lost; rw [hm]
  rw [hlost]
  have HH := Lib.hid h
  clear hlost hm h hf'
  unfold P
  cases hst : f.stopped
  · have hn := hnow hst
    have HST := Lib.hid hst
    clear hst hnow
    cases known
    · go_enter Try.func15, Try.ntmps15
      go_wp2_with fail
      refine (HL w).mono ?_
      rintro e w1 ⟨rfl, hb⟩
      have hf1 := HH.out.below hb HH.out.lt
      obtain ⟨c0, c1, c2, c3, c4, c5, c6, c7, c8⟩ := fcells hf1
      rw [HST.out] at c8
      have f2 := hf1.frozen 2
      have f3 := hf1.frozen 3
      have f4 := hf1.frozen 4
      have f5 := hf1.frozen 5
      have f7 := hf1.frozen 7
      have f8 := hf1.frozen 8
      have HF := Lib.hid hf1
      have HG := Lib.hid (only_of_below hb (some b))
      clear hb hf1 HL
      go_wp2_with fail
      go_ret
      exact ⟨rfl, HF.out.set_ 8 (.bool true), only_setCell (p := ⟨b, 8, none⟩) HG.out (.inl rfl) _⟩
    cases drop
    · by_cases hmn : (m : Int) > f.now
      · go_enter Try.func15, Try.ntmps15
        go_wp2_with fail
        refine (HL w).mono ?_
        rintro e w1 ⟨rfl, hb⟩
        have hf1 := HH.out.below hb HH.out.lt
        obtain ⟨c0, c1, c2, c3, c4, c5, c6, c7, c8⟩ := fcells hf1
        rw [HST.out] at c8
        have f2 := hf1.frozen 2
        have f3 := hf1.frozen 3
        have f4 := hf1.frozen 4
        have f5 := hf1.frozen 5
        have f7 := hf1.frozen 7
        have f8 := hf1.frozen 8
        have HF := Lib.hid hf1
        have HG := Lib.hid (only_of_below hb (some b))
        clear hb hf1 HL
        have hfm := at_frozen HF.out m
        have hcm := at_cell HF.out m (by omega)
        go_wp2_with fail
        go_ret
        have hp := miss_put HF.out m (by omega) (by omega)
        exact ⟨rfl, hp.1, World.grownBy.trans HG.out hp.2⟩
      · go_enter Try.func15, Try.ntmps15
        go_wp2_with fail
        refine (HL w).mono ?_
        rintro e w1 ⟨rfl, hb⟩
        have hf1 := HH.out.below hb HH.out.lt
        obtain ⟨c0, c1, c2, c3, c4, c5, c6, c7, c8⟩ := fcells hf1
        rw [HST.out] at c8
        have f2 := hf1.frozen 2
        have f3 := hf1.frozen 3
        have f4 := hf1.frozen 4
        have f5 := hf1.frozen 5
        have f7 := hf1.frozen 7
        have f8 := hf1.frozen 8
        have HF := Lib.hid hf1
        have HG := Lib.hid (only_of_below hb (some b))
        clear hb hf1 HL
        go_wp2_with fail
        go_ret
        exact ⟨rfl, HF.out.set_ 8 (.bool true), only_setCell (p := ⟨b, 8, none⟩) HG.out (.inl rfl) _⟩
    · by_cases hm0 : (m : Int) = 0
      · go_enter Try.func15, Try.ntmps15
        go_wp2_with fail
        refine (HL w).mono ?_
        rintro e w1 ⟨rfl, hb⟩
        have hf1 := HH.out.below hb HH.out.lt
        obtain ⟨c0, c1, c2, c3, c4, c5, c6, c7, c8⟩ := fcells hf1
        rw [HST.out] at c8
        have f2 := hf1.frozen 2
        have f3 := hf1.frozen 3
        have f4 := hf1.frozen 4
        have f5 := hf1.frozen 5
        have f7 := hf1.frozen 7
        have f8 := hf1.frozen 8
        have HF := Lib.hid hf1
        have HG := Lib.hid (only_of_below hb (some b))
        clear hb hf1 HL
        go_wp2_with fail
        go_ret
        have hp := zero_set HF.out
        rw [HST.out] at hp
        exact ⟨rfl, hp.1, World.grownBy.trans HG.out hp.2⟩
      · have hm1 : 0 < (m : Int) := by omega
        go_enter Try.func15, Try.ntmps15
        go_wp2_with fail
        refine (HL w).mono ?_
        rintro e w1 ⟨rfl, hb⟩
        have hf1 := HH.out.below hb HH.out.lt
        obtain ⟨c0, c1, c2, c3, c4, c5, c6, c7, c8⟩ := fcells hf1
        rw [HST.out] at c8
        have f2 := hf1.frozen 2
        have f3 := hf1.frozen 3
        have f4 := hf1.frozen 4
        have f5 := hf1.frozen 5
        have f7 := hf1.frozen 7
        have f8 := hf1.frozen 8
        have HF := Lib.hid hf1
        have HG := Lib.hid (only_of_below hb (some b))
        clear hb hf1 HL
        go_wp2_with fail
        go_ret
        exact ⟨rfl, HF.out, HG.out⟩
  · clear hnow
    go_enter Try.func15, Try.ntmps15
    go_wp2_with fail
    refine (HL w).mono ?_
    rintro e w1 ⟨rfl, hb⟩
    have hf1 := HH.out.below hb HH.out.lt
    obtain ⟨c0, c1, c2, c3, c4, c5, c6, c7, c8⟩ := fcells hf1
    rw [hst] at c8
    have HF := Lib.hid hf1
    have HG := Lib.hid (only_of_below hb (some b))
    clear hb hf1 HL hst
    go_wp2_with fail
    go_ret
    exact ⟨rfl, HF.out, HG.out⟩
end Go.Proofs.Ytnodnngakopooaa
