/- The filter's rules, each by a contract. Conditions: numbers of their kinds. -/
import Derived.Test.YtnodnngakopooaaWords
import Derived.BigFrame
import Derived.LoopTactic
import Derived.Below
import Derived.Deep.Light
import Derived.Lib.QuietBelow
import Derived.Deep.RegionWith
import Derived.Deep.DeepCutAuto
namespace Go.Proofs.Ytnodnngakopooaa
open Go.RowKit

/-- A frame's facts. -/
structure Fa where
  key : Bool
  tid : Int
  sync : Bool
  drop : Bool
  has : Bool
  tl0 : Int
/-- Its numbers are bytes. -/
def Fa.ok (x : Fa) : Prop := (0 ≤ x.tid ∧ x.tid ≤ 255) ∧ 0 ≤ x.tl0 ∧ x.tl0 ≤ 255
def Fa.cells (x : Fa) : Array Value := #[.bool x.key, .int .u8 x.tid, .bool x.sync, .bool x.drop, .bool x.has, .int .u8 x.tl0]
/-- A filter. -/
structure Fl where
  told : Bool
  num : Int
  m0 : Bool
  m1 : Bool
  m2 : Bool
  m3 : Bool
  asked : Int
  now : Int
  stopped : Bool
def Fl.cells (f : Fl) : Array Value := #[.bool f.told, .int .u8 f.num, .bool f.m0, .bool f.m1, .bool f.m2, .bool f.m3, .int .i64 f.asked, .int .i64 f.now, .bool f.stopped]
abbrev Fb (w : World) (b : Nat) (f : Fl) : Prop := Blk w b 59 f.cells
abbrev P (b : Nat) : Value := .pointer (some ⟨b, 0, none⟩)

/-- What is known of a filter's cells. -/
theorem fcells {w : World} {b : Nat} {f : Fl} (h : Fb w b f) :
    w.cell? ⟨b, 0, none⟩ = some (.bool f.told) ∧ w.cell? ⟨b, 1, none⟩ = some (.int .u8 f.num) ∧ w.cell? ⟨b, 2, none⟩ = some (.bool f.m0) ∧ w.cell? ⟨b, 3, none⟩ = some (.bool f.m1) ∧ w.cell? ⟨b, 4, none⟩ = some (.bool f.m2) ∧ w.cell? ⟨b, 5, none⟩ = some (.bool f.m3) ∧ w.cell? ⟨b, 6, none⟩ = some (.int .i64 f.asked) ∧ w.cell? ⟨b, 7, none⟩ = some (.int .i64 f.now) ∧ w.cell? ⟨b, 8, none⟩ = some (.bool f.stopped) :=
  ⟨h.cell 0, h.cell 1, h.cell 2, h.cell 3, h.cell 4, h.cell 5, h.cell 6, h.cell 7, h.cell 8⟩

theorem h0_any (b : Nat) (f : Fl) (x : Fa) (t : Int) (w : World) (h : Fb w b f) : Calls Try.prog 35 #[P b, .agg x.cells, .int .i64 t] w fun e w' => e = .returned (.bool (x.key && decide (f.asked < 0))) ∧ Below w.heap.size w w' := by
  obtain ⟨c0, c1, c2, c3, c4, c5, c6, c7, c8⟩ := fcells h
  have hl := h.lt
  obtain ⟨key, tid, sync, drop, has, tl0⟩ := x
  simp only [Fa.cells]
  clear h
  cases key
  all_goals (
    go_enter Try.func35, Try.ntmps35
    go_wp2
    go_ret
    exact ⟨ret_bool (by simp), (Below.refl _ w).alloc (Nat.le_refl _) _⟩)
theorem h1_any (b : Nat) (f : Fl) (x : Fa) (t : Int) (w : World) (h : Fb w b f) : Calls Try.prog 36 #[P b, .agg x.cells, .int .i64 t] w fun e w' => e = .returned (.bool (x.key)) ∧ Below w.heap.size w w' := by
  obtain ⟨c0, c1, c2, c3, c4, c5, c6, c7, c8⟩ := fcells h
  have hl := h.lt
  obtain ⟨key, tid, sync, drop, has, tl0⟩ := x
  simp only [Fa.cells]
  clear h
  go_enter Try.func36, Try.ntmps36
  go_wp2
  go_ret
  exact ⟨ret_bool (by simp), (Below.refl _ w).alloc (Nat.le_refl _) _⟩
theorem h2_any (b : Nat) (f : Fl) (x : Fa) (t : Int) (w : World) (h : Fb w b f) : Calls Try.prog 39 #[P b, .agg x.cells, .int .i64 t] w fun e w' => e = .returned (.bool (f.stopped)) ∧ Below w.heap.size w w' := by
  obtain ⟨c0, c1, c2, c3, c4, c5, c6, c7, c8⟩ := fcells h
  have hl := h.lt
  obtain ⟨key, tid, sync, drop, has, tl0⟩ := x
  simp only [Fa.cells]
  clear h
  go_enter Try.func39, Try.ntmps39
  go_wp2
  go_ret
  exact ⟨ret_bool (by simp), (Below.refl _ w).alloc (Nat.le_refl _) _⟩
theorem h4_any (b : Nat) (f : Fl) (x : Fa) (t : Int) (w : World) (h : Fb w b f) : Calls Try.prog 42 #[P b, .agg x.cells, .int .i64 t] w fun e w' => e = .returned (.bool (decide (t = 0))) ∧ Below w.heap.size w w' := by
  obtain ⟨c0, c1, c2, c3, c4, c5, c6, c7, c8⟩ := fcells h
  have hl := h.lt
  obtain ⟨key, tid, sync, drop, has, tl0⟩ := x
  simp only [Fa.cells]
  clear h
  go_enter Try.func42, Try.ntmps42
  go_wp2
  go_ret
  exact ⟨by first | rfl | exact ret_bool (by simp), (Below.refl _ w).alloc (Nat.le_refl _) _⟩
theorem h6_any (b : Nat) (f : Fl) (x : Fa) (t : Int) (w : World) (h : Fb w b f) : Calls Try.prog 46 #[P b, .agg x.cells, .int .i64 t] w fun e w' => e = .returned (.bool (decide (t ≤ f.now))) ∧ Below w.heap.size w w' := by
  obtain ⟨c0, c1, c2, c3, c4, c5, c6, c7, c8⟩ := fcells h
  have hl := h.lt
  obtain ⟨key, tid, sync, drop, has, tl0⟩ := x
  simp only [Fa.cells]
  clear h
  go_enter Try.func46, Try.ntmps46
  go_wp2
  go_ret
  exact ⟨ret_bool (by simp), (Below.refl _ w).alloc (Nat.le_refl _) _⟩
theorem h8_any (b : Nat) (f : Fl) (x : Fa) (t : Int) (w : World) (h : Fb w b f) : Calls Try.prog 50 #[P b, .agg x.cells, .int .i64 t] w fun e w' => e = .returned (.bool (true)) ∧ Below w.heap.size w w' := by
  obtain ⟨c0, c1, c2, c3, c4, c5, c6, c7, c8⟩ := fcells h
  have hl := h.lt
  obtain ⟨key, tid, sync, drop, has, tl0⟩ := x
  simp only [Fa.cells]
  clear h
  go_enter Try.func50, Try.ntmps50
  go_wp2
  go_ret
  exact ⟨rfl, (Below.refl _ w).alloc (Nat.le_refl _) _⟩
theorem drop_any (b : Nat) (x : Fa) (t : Int) (w : World) : Calls Try.prog 32 #[P b, .agg x.cells, .int .i64 t] w fun e w' => e = .returned (.int .i64 1) ∧ Below w.heap.size w w' := by
  obtain ⟨key, tid, sync, drop, has, tl0⟩ := x
  simp only [Fa.cells]
  go_enter Try.func32, Try.ntmps32
  go_wp2
  go_ret
  exact ⟨rfl, (Below.refl _ w).alloc (Nat.le_refl _) _⟩
theorem emit_any (b : Nat) (x : Fa) (t : Int) (w : World) : Calls Try.prog 33 #[P b, .agg x.cells, .int .i64 t] w fun e w' => e = .returned (.int .i64 0) ∧ Below w.heap.size w w' := by
  obtain ⟨key, tid, sync, drop, has, tl0⟩ := x
  simp only [Fa.cells]
  go_enter Try.func33, Try.ntmps33
  go_wp2
  go_ret
  exact ⟨rfl, (Below.refl _ w).alloc (Nat.le_refl _) _⟩

theorem ly_any (x : Fa) (w : World) (hx : x.ok) : Calls Try.prog 27 #[.agg x.cells] w fun e w' => e = .returned (.int .i64 (if x.key then 0 else min x.tid 3)) ∧ Below w.heap.size w w' := by
  obtain ⟨key, tid, sync, drop, has, tl0⟩ := x
  obtain ⟨⟨t0, t1⟩, -⟩ := hx
  simp only at t0 t1
  simp only [Fa.cells]
  cases key
  · by_cases h3 : tid ≤ 3
    · go_enter Try.func27, Try.ntmps27
      go_wp2
      go_ret
      exact ⟨ret_int (by omega), (Below.refl _ w).alloc (Nat.le_refl _) _⟩
    · go_enter Try.func27, Try.ntmps27
      go_wp2
      go_ret
      exact ⟨ret_int (by omega), (Below.refl _ w).alloc (Nat.le_refl _) _⟩
  · go_enter Try.func27, Try.ntmps27
    go_wp2
    go_ret
    exact ⟨rfl, (Below.refl _ w).alloc (Nat.le_refl _) _⟩
theorem stop_any (b : Nat) (f : Fl) (x : Fa) (t : Int) (w : World) (h : Fb w b f) : Calls Try.prog 34 #[P b, .agg x.cells, .int .i64 t] w fun e w' => e = .returned (.int .i64 2) ∧ Fb w' b { f with stopped := true } ∧ w.grownBy w' (some b) := by
  have HX := Lib.hid h
  obtain ⟨c0, c1, c2, c3, c4, c5, c6, c7, c8⟩ := fcells h
  have f8 := h.frozen 8
  have hl := h.lt
  obtain ⟨key, tid, sync, drop, has, tl0⟩ := x
  simp only [Fa.cells]
  clear h
  go_enter Try.func34, Try.ntmps34
  go_wp2
  go_ret
  exact ⟨rfl, (HX.out.set_ 8 (.bool true)).alloc _, only_alloc (only_setCell (p := ⟨b, 8, none⟩) (World.grownBy.refl w _) (.inl rfl) _) _⟩
theorem sync_any (b : Nat) (f : Fl) (x : Fa) (t : Int) (w : World) (h : Fb w b f) : Calls Try.prog 49 #[P b, .agg x.cells, .int .i64 t] w fun e w' => e = .returned (.int .i64 0) ∧ Fb w' b { f with now := t } ∧ w.grownBy w' (some b) := by
  have HX := Lib.hid h
  obtain ⟨c0, c1, c2, c3, c4, c5, c6, c7, c8⟩ := fcells h
  have f8 := h.frozen 7
  have hl := h.lt
  obtain ⟨key, tid, sync, drop, has, tl0⟩ := x
  simp only [Fa.cells]
  clear h
  go_enter Try.func49, Try.ntmps49
  go_wp2
  go_ret
  exact ⟨rfl, (HX.out.set_ 7 (.int .i64 t)).alloc _, only_alloc (only_setCell (p := ⟨b, 7, none⟩) (World.grownBy.refl w _) (.inl rfl) _) _⟩
/-- A base that follows. -/
def Fl.base (f : Fl) (x : Fa) : Fl := { f with told := x.has, num := x.tl0, m0 := false, m1 := false, m2 := false, m3 := false }
theorem base_set {w : World} {b : Nat} {f : Fl} (h : Fb w b f) (has : Bool) (tl0 : Int) (o : Obj) :
    Fb (((((((w.setCell ⟨b, 0, none⟩ (.bool has)).setCell ⟨b, 1, none⟩ (.int .u8 tl0)).setCell ⟨b, 2, none⟩ (.bool false)).setCell ⟨b, 3, none⟩ (.bool false)).setCell ⟨b, 4, none⟩ (.bool false)).setCell ⟨b, 5, none⟩ (.bool false)).alloc o) b { f with told := has, num := tl0, m0 := false, m1 := false, m2 := false, m3 := false } ∧
    w.grownBy (((((((w.setCell ⟨b, 0, none⟩ (.bool has)).setCell ⟨b, 1, none⟩ (.int .u8 tl0)).setCell ⟨b, 2, none⟩ (.bool false)).setCell ⟨b, 3, none⟩ (.bool false)).setCell ⟨b, 4, none⟩ (.bool false)).setCell ⟨b, 5, none⟩ (.bool false)).alloc o) (some b) := by
  refine ⟨((((((h.set_ 0 (.bool has)).set_ 1 (.int .u8 tl0)).set_ 2 (.bool false)).set_ 3 (.bool false)).set_ 4 (.bool false)).set_ 5 (.bool false)).alloc o, only_alloc ?_ o⟩
  refine only_setCell (p := ⟨b, 5, none⟩) ?_ (.inl rfl) _
  refine only_setCell (p := ⟨b, 4, none⟩) ?_ (.inl rfl) _
  refine only_setCell (p := ⟨b, 3, none⟩) ?_ (.inl rfl) _
  refine only_setCell (p := ⟨b, 2, none⟩) ?_ (.inl rfl) _
  refine only_setCell (p := ⟨b, 1, none⟩) ?_ (.inl rfl) _
  exact only_setCell (p := ⟨b, 0, none⟩) (World.grownBy.refl w _) (.inl rfl) _
theorem follows_any (b : Nat) (f : Fl) (x : Fa) (w : World) (h : Fb w b f) : Calls Try.prog 38 #[P b, .agg x.cells] w fun e w' => e = .returned (.tuple #[]) ∧ Fb w' b (f.base x) ∧ w.grownBy w' (some b) := by
  have HX := Lib.hid h
  obtain ⟨c0, c1, c2, c3, c4, c5, c6, c7, c8⟩ := fcells h
  have f0 := h.frozen 0
  have f1 := h.frozen 1
  have f2 := h.frozen 2
  have f3 := h.frozen 3
  have f4 := h.frozen 4
  have f5 := h.frozen 5
  have hl := h.lt
  obtain ⟨key, tid, sync, drop, has, tl0⟩ := x
  simp only [Fa.cells]
  clear h
  go_enter Try.func38, Try.ntmps38
  go_wp2
  go_end0
  exact ⟨rfl, base_set HX.out has tl0 _⟩
/-- A layer that was missed. -/
def Fl.miss (f : Fl) (t : Int) (d : Bool) : Fl := if t = 1 then { f with m1 := f.m1 || d } else if t = 2 then { f with m2 := f.m2 || d } else if t = 3 then { f with m3 := f.m3 || d } else f
theorem miss_drew {w w' : World} {b : Nat} {f : Fl} (h : Fb w' b f ∧ w.grownBy w' (some b)) : Fb w'.drew b f ∧ w.grownBy w'.drew (some b) := ⟨h.1.drew, only_drew h.2⟩
theorem miss_set {w : World} {b : Nat} {f : Fl} (h : Fb w b f) (t : Nat) (h1 : 1 ≤ t) (h3 : t ≤ 3) (d v : Bool) (hv : v = ((if t = 1 then f.m1 else if t = 2 then f.m2 else f.m3) || d)) (o : Obj) :
    Fb ((w.setCell ⟨b, 2 + t, none⟩ (.bool v)).alloc o) b (f.miss t d) ∧ w.grownBy ((w.setCell ⟨b, 2 + t, none⟩ (.bool v)).alloc o) (some b) := by
  refine ⟨?_, only_alloc (only_setCell (p := ⟨b, 2 + t, none⟩) (World.grownBy.refl w _) (.inl rfl) _) _⟩
  subst hv
  have hs := fun v => (h.set_ (2 + t) (.bool v)).alloc o
  rcases (show t = 1 ∨ t = 2 ∨ t = 3 by omega) with rfl | rfl | rfl
  · exact hs _
  · exact hs _
  · exact hs _
theorem miss1_any (b : Nat) (f : Fl) (x : Fa) (w : World) (h : Fb w b f) : Calls Try.prog 51 #[P b, .agg x.cells, .int .i64 1] w fun e w' => e = .returned (.int .i64 1) ∧ Fb w' b (f.miss 1 (!x.drop)) ∧ w.grownBy w' (some b) := by
  have HX := Lib.hid h
  obtain ⟨c0, c1, c2, c3, c4, c5, c6, c7, c8⟩ := fcells h
  have f3 := h.frozen 3
  have hl := h.lt
  obtain ⟨key, tid, sync, drop, has, tl0⟩ := x
  simp only [Fa.cells]
  clear h
  have hm : ∃ m, f.m1 = m := ⟨_, rfl⟩
  obtain ⟨m, hm⟩ := hm
  rw [hm] at c3
  have HM := Lib.hid hm
  clear hm
  cases m
  · go_enter Try.func51, Try.ntmps51
    go_wp2
    go_region
    go_wp2
    go_ret
    exact ⟨rfl, miss_drew (miss_set HX.out 1 (by omega) (by omega) (!drop) _ (by simp [HM.out]) _)⟩
  · go_enter Try.func51, Try.ntmps51
    go_wp2
    go_region
    go_wp2
    go_ret
    exact ⟨rfl, miss_drew (miss_set HX.out 1 (by omega) (by omega) (!drop) _ (by simp [HM.out]) _)⟩
theorem miss2_any (b : Nat) (f : Fl) (x : Fa) (w : World) (h : Fb w b f) : Calls Try.prog 51 #[P b, .agg x.cells, .int .i64 2] w fun e w' => e = .returned (.int .i64 1) ∧ Fb w' b (f.miss 2 (!x.drop)) ∧ w.grownBy w' (some b) := by
  have HX := Lib.hid h
  obtain ⟨c0, c1, c2, c3, c4, c5, c6, c7, c8⟩ := fcells h
  have f3 := h.frozen 4
  have hl := h.lt
  obtain ⟨key, tid, sync, drop, has, tl0⟩ := x
  simp only [Fa.cells]
  clear h
  have hm : ∃ m, f.m2 = m := ⟨_, rfl⟩
  obtain ⟨m, hm⟩ := hm
  rw [hm] at c4
  have HM := Lib.hid hm
  clear hm
  cases m
  · go_enter Try.func51, Try.ntmps51
    go_wp2
    go_region
    go_wp2
    go_ret
    exact ⟨rfl, miss_drew (miss_set HX.out 2 (by omega) (by omega) (!drop) _ (by simp [HM.out]) _)⟩
  · go_enter Try.func51, Try.ntmps51
    go_wp2
    go_region
    go_wp2
    go_ret
    exact ⟨rfl, miss_drew (miss_set HX.out 2 (by omega) (by omega) (!drop) _ (by simp [HM.out]) _)⟩
theorem miss3_any (b : Nat) (f : Fl) (x : Fa) (w : World) (h : Fb w b f) : Calls Try.prog 51 #[P b, .agg x.cells, .int .i64 3] w fun e w' => e = .returned (.int .i64 1) ∧ Fb w' b (f.miss 3 (!x.drop)) ∧ w.grownBy w' (some b) := by
  have HX := Lib.hid h
  obtain ⟨c0, c1, c2, c3, c4, c5, c6, c7, c8⟩ := fcells h
  have f3 := h.frozen 5
  have hl := h.lt
  obtain ⟨key, tid, sync, drop, has, tl0⟩ := x
  simp only [Fa.cells]
  clear h
  have hm : ∃ m, f.m3 = m := ⟨_, rfl⟩
  obtain ⟨m, hm⟩ := hm
  rw [hm] at c5
  have HM := Lib.hid hm
  clear hm
  cases m
  · go_enter Try.func51, Try.ntmps51
    go_wp2
    go_region
    go_wp2
    go_ret
    exact ⟨rfl, miss_drew (miss_set HX.out 3 (by omega) (by omega) (!drop) _ (by simp [HM.out]) _)⟩
  · go_enter Try.func51, Try.ntmps51
    go_wp2
    go_region
    go_wp2
    go_ret
    exact ⟨rfl, miss_drew (miss_set HX.out 3 (by omega) (by omega) (!drop) _ (by simp [HM.out]) _)⟩

theorem two_below {w : World} (o o' : Obj) : Below w.heap.size w ((w.alloc o).alloc o') := ((Below.refl _ w).alloc (Nat.le_refl _) _).alloc (by simp) _
theorem ahead_any (told : Bool) (num : Int) (m0 m1 m2 m3 : Bool) (x : Fa) (w : World) (hx : x.ok) (_n0 : 0 ≤ num) (_n1 : num ≤ 255) : Calls Try.prog 41 #[.agg #[.bool told, .int .u8 num, .bool m0, .bool m1, .bool m2, .bool m3], .agg x.cells] w fun e w' => e = .returned (.bool (!told || !x.has || decide (x.tl0 = (num + 1) % 256))) ∧ Below w.heap.size w w' := by
  obtain ⟨key, tid, sync, drop, has, tl0⟩ := x
  obtain ⟨-, t0, t1⟩ := hx
  simp only at t0 t1
  simp only [Fa.cells]
  cases told
  · go_enter Try.func41, Try.ntmps41
    go_wp2
    go_ret
    exact ⟨rfl, two_below _ _⟩
  cases has
  · go_enter Try.func41, Try.ntmps41
    go_wp2
    go_ret
    exact ⟨rfl, two_below _ _⟩
  · go_enter Try.func41, Try.ntmps41
    go_wp2
    go_ret
    exact ⟨ret_bool (by rw [Bool.eq_iff_iff]; simp), two_below _ _⟩
theorem of_any (told : Bool) (num : Int) (m0 m1 m2 m3 : Bool) (x : Fa) (w : World) : Calls Try.prog 45 #[.agg #[.bool told, .int .u8 num, .bool m0, .bool m1, .bool m2, .bool m3], .agg x.cells] w fun e w' => e = .returned (.bool (!told || !x.has || decide (x.tl0 = num))) ∧ Below w.heap.size w w' := by
  obtain ⟨key, tid, sync, drop, has, tl0⟩ := x
  simp only [Fa.cells]
  cases told
  · go_enter Try.func45, Try.ntmps45
    go_wp2
    go_ret
    exact ⟨rfl, two_below _ _⟩
  cases has
  · go_enter Try.func45, Try.ntmps45
    go_wp2
    go_ret
    exact ⟨rfl, two_below _ _⟩
  · go_enter Try.func45, Try.ntmps45
    go_wp2
    go_ret
    exact ⟨ret_bool (by rw [Bool.eq_iff_iff]; simp), two_below _ _⟩
set_option maxHeartbeats 2000000 in
theorem h3_any (b : Nat) (f : Fl) (x : Fa) (w : World) (h : Fb w b f) (hx : x.ok) (n0 : 0 ≤ f.num) (n1 : f.num ≤ 255) : Calls Try.prog 40 #[P b, .agg x.cells, .int .i64 0] w fun e w' => e = .returned (.bool (!(!f.told || !x.has || decide (x.tl0 = (f.num + 1) % 256)))) ∧ Below w.heap.size w w' := by
  unfold P
  go_enter Try.func40, Try.ntmps40
  go_wp2_with fail
  obtain ⟨w1, hw1⟩ : ∃ w1, w.alloc (.cells x.cells 33) = w1 := ⟨_, rfl⟩
  have hx1 : Fb w1 b f := by rw [← hw1]; exact h.alloc _
  have hb1 : Below w.heap.size w w1 := by rw [← hw1]; exact (Below.refl _ w).alloc (Nat.le_refl _) _
  have hy1 : Blk w1 w.heap.size 33 x.cells := by rw [← hw1]; exact Blk.new w 33 _
  rw [hw1]
  clear hw1
  obtain ⟨c0, c1, c2, c3, c4, c5, c6, c7, c8⟩ := fcells hx1
  have q0 := cell_regrown (w := w1) c0
  have q1 := cell_regrown (w := w1) c1
  have q2 := cell_regrown (w := w1) c2
  have q3 := cell_regrown (w := w1) c3
  have q4 := cell_regrown (w := w1) c4
  have q5 := cell_regrown (w := w1) c5
  have r0 := cell_regrown (w := w1) (show w1.cell? ⟨w.heap.size, 0, none⟩ = some (.bool x.key) from hy1.cell 0)
  have r1 := cell_regrown (w := w1) (show w1.cell? ⟨w.heap.size, 1, none⟩ = some (.int .u8 x.tid) from hy1.cell 1)
  have r2 := cell_regrown (w := w1) (show w1.cell? ⟨w.heap.size, 2, none⟩ = some (.bool x.sync) from hy1.cell 2)
  have r3 := cell_regrown (w := w1) (show w1.cell? ⟨w.heap.size, 3, none⟩ = some (.bool x.drop) from hy1.cell 3)
  have r4 := cell_regrown (w := w1) (show w1.cell? ⟨w.heap.size, 4, none⟩ = some (.bool x.has) from hy1.cell 4)
  have r5 := cell_regrown (w := w1) (show w1.cell? ⟨w.heap.size, 5, none⟩ = some (.int .u8 x.tl0) from hy1.cell 5)
  clear c0 c1 c2 c3 c4 c5 c6 c7 c8 hx1 hy1 h
  refine wp_region_quiet_below (by kernel_rfl) (by kernel_rfl) ?_
  repeat (go_big_quiet_step (first
    | (go_at_call 41; exact Calls.regrown_of (ahead_any _ _ _ _ _ _ x _ hx n0 n1))))
  refine wpQuiet_nil ?_
  intro _ hw'
  obtain ⟨p, hw''⟩ := hw'
  subst hw''
  have bg := below_regrown w1 p.d p.os
  generalize Sort.grow (redrawn w1 p.d) p.os = w3 at bg ⊢
  go_wp2
  go_ret
  exact ⟨ret_bool (by cases f.told <;> cases x.has <;> simp), hb1.trans (bg.mono hb1.size)⟩
set_option maxHeartbeats 2000000 in
theorem h5_any (b : Nat) (f : Fl) (x : Fa) (t : Int) (w : World) (h : Fb w b f) : Calls Try.prog 44 #[P b, .agg x.cells, .int .i64 t] w fun e w' => e = .returned (.bool (!(!f.told || !x.has || decide (x.tl0 = f.num)))) ∧ Below w.heap.size w w' := by
  unfold P
  go_enter Try.func44, Try.ntmps44
  go_wp2_with fail
  obtain ⟨w1, hw1⟩ : ∃ w1, w.alloc (.cells x.cells 33) = w1 := ⟨_, rfl⟩
  have hx1 : Fb w1 b f := by rw [← hw1]; exact h.alloc _
  have hb1 : Below w.heap.size w w1 := by rw [← hw1]; exact (Below.refl _ w).alloc (Nat.le_refl _) _
  have hy1 : Blk w1 w.heap.size 33 x.cells := by rw [← hw1]; exact Blk.new w 33 _
  rw [hw1]
  clear hw1
  obtain ⟨c0, c1, c2, c3, c4, c5, c6, c7, c8⟩ := fcells hx1
  have q0 := cell_regrown (w := w1) c0
  have q1 := cell_regrown (w := w1) c1
  have q2 := cell_regrown (w := w1) c2
  have q3 := cell_regrown (w := w1) c3
  have q4 := cell_regrown (w := w1) c4
  have q5 := cell_regrown (w := w1) c5
  have r0 := cell_regrown (w := w1) (show w1.cell? ⟨w.heap.size, 0, none⟩ = some (.bool x.key) from hy1.cell 0)
  have r1 := cell_regrown (w := w1) (show w1.cell? ⟨w.heap.size, 1, none⟩ = some (.int .u8 x.tid) from hy1.cell 1)
  have r2 := cell_regrown (w := w1) (show w1.cell? ⟨w.heap.size, 2, none⟩ = some (.bool x.sync) from hy1.cell 2)
  have r3 := cell_regrown (w := w1) (show w1.cell? ⟨w.heap.size, 3, none⟩ = some (.bool x.drop) from hy1.cell 3)
  have r4 := cell_regrown (w := w1) (show w1.cell? ⟨w.heap.size, 4, none⟩ = some (.bool x.has) from hy1.cell 4)
  have r5 := cell_regrown (w := w1) (show w1.cell? ⟨w.heap.size, 5, none⟩ = some (.int .u8 x.tl0) from hy1.cell 5)
  clear c0 c1 c2 c3 c4 c5 c6 c7 c8 hx1 hy1 h
  refine wp_region_quiet_below (by kernel_rfl) (by kernel_rfl) ?_
  repeat (go_big_quiet_step (first
    | (go_at_call 45; exact Calls.regrown_of (of_any _ _ _ _ _ _ x _))))
  refine wpQuiet_nil ?_
  intro _ hw'
  obtain ⟨p, hw''⟩ := hw'
  subst hw''
  have bg := below_regrown w1 p.d p.os
  generalize Sort.grow (redrawn w1 p.d) p.os = w3 at bg ⊢
  go_wp2
  go_ret
  exact ⟨ret_bool (by cases f.told <;> cases x.has <;> simp), hb1.trans (bg.mono hb1.size)⟩
theorem h3_no (b : Nat) (f : Fl) (x : Fa) (t : Int) (w : World) (ht : t ≠ 0) (_h : Fb w b f) : Calls Try.prog 40 #[P b, .agg x.cells, .int .i64 t] w fun e w' => e = .returned (.bool false) ∧ Below w.heap.size w w' := by
  unfold P
  go_enter Try.func40, Try.ntmps40
  go_wp2_with fail
  go_quiet (fail)
  go_wp2
  go_ret
  exact ⟨rfl, below_drewN ((Below.refl _ w).alloc (Nat.le_refl _) _) _⟩

/-- Was no layer above now missed, up to some one? -/
def Fl.at (f : Fl) (t : Int) : Bool := if t = 0 then f.m0 else if t = 1 then f.m1 else if t = 2 then f.m2 else f.m3
def Fl.clean (f : Fl) (t : Int) : Bool := (decide (f.now + 1 ≤ 0) && f.m0 && decide (0 ≤ t) || decide (f.now + 1 ≤ 1) && f.m1 && decide (1 ≤ t) || decide (f.now + 1 ≤ 2) && f.m2 && decide (2 ≤ t) || decide (f.now + 1 ≤ 3) && f.m3 && decide (3 ≤ t)) == false
theorem at_cell {w : World} {b : Nat} {f : Fl} (h : Fb w b f) (t : Nat) (h3 : t ≤ 3) : w.cell? ⟨b, 2 + t, none⟩ = some (.bool (f.at t)) := by
  rw [Blk.cell h]
  rcases (show t = 0 ∨ t = 1 ∨ t = 2 ∨ t = 3 by omega) with rfl | rfl | rfl | rfl <;> rfl
/-- Clean from a layer up. -/
def Fl.from (f : Fl) (s t : Int) : Bool := (decide (s ≤ 0) && f.m0 && decide (0 ≤ t) || decide (s ≤ 1) && f.m1 && decide (1 ≤ t) || decide (s ≤ 2) && f.m2 && decide (2 ≤ t) || decide (s ≤ 3) && f.m3 && decide (3 ≤ t)) == false
theorem from_hit (f : Fl) (s : Nat) (t : Int) (h3 : s ≤ 3) (h : (s : Int) ≤ t) (hm : f.at s = true) : f.from s t = false := by
  unfold Fl.from
  rcases (show s = 0 ∨ s = 1 ∨ s = 2 ∨ s = 3 by omega) with rfl | rfl | rfl | rfl
  · have : f.m0 = true := hm
    simp [this]; omega
  · have : f.m1 = true := hm
    simp [this]; omega
  · have : f.m2 = true := hm
    simp [this]; omega
  · have : f.m3 = true := hm
    simp [this]; omega
theorem from_miss (f : Fl) (s : Nat) (t : Int) (h3 : s ≤ 3) (hm : f.at s = false) : f.from s t = f.from (s + 1 : Nat) t := by
  unfold Fl.from
  rcases (show s = 0 ∨ s = 1 ∨ s = 2 ∨ s = 3 by omega) with rfl | rfl | rfl | rfl
  · have : f.m0 = false := hm
    simp [this]
  · have : f.m1 = false := hm
    simp [this]
  · have : f.m2 = false := hm
    simp [this]
  · have : f.m3 = false := hm
    simp [this]
theorem from_end (f : Fl) (s : Nat) (t : Int) (h : t < s) : f.from s t = true := by
  unfold Fl.from
  simp
  omega
end Go.Proofs.Ytnodnngakopooaa
