/- The extender's own functions, each by a contract. Conditions: digits from 1 to 32, numbers of their kinds. -/
import Derived.Test.YtlaapogohgijjaaAWords
namespace Go.Proofs.Ytlaapogohgijjaa
open Go.RowKit

def Ext (w : World) (b : Nat) (d t : Int) (g : Bool) : Prop := w.heap[b]? = some (.cells #[.int .i64 d, .int .u64 t, .bool g] 55 (0, 0))
theorem Ext.lt {w : World} {b : Nat} {d t : Int} {g : Bool} (h : Ext w b d t g) : b < w.heap.size := by
  rcases Nat.lt_or_ge b w.heap.size with hlt | hge
  · exact hlt
  · unfold Ext at h; rw [Array.getElem?_eq_none hge] at h; cases h
theorem Ext.cells {w : World} {b : Nat} {d t : Int} {g : Bool} (h : Ext w b d t g) :
    w.cell? ⟨b, 0, none⟩ = some (.int .i64 d) ∧ w.cell? ⟨b, 1, none⟩ = some (.int .u64 t) ∧ w.cell? ⟨b, 2, none⟩ = some (.bool g) :=
  ⟨cell_of_row w b 0 _ 55 (0, 0) h, cell_of_row w b 1 _ 55 (0, 0) h, cell_of_row w b 2 _ 55 (0, 0) h⟩
theorem Ext.free {w : World} {b : Nat} {d t : Int} {g : Bool} (h : Ext w b d t g) (i : Nat) : w.frozen? ⟨b, i, none⟩ = false := by
  unfold Ext at h
  simp [World.frozen?, h]
theorem Ext.below {B : Nat} {w w' : World} {b : Nat} {d t : Int} {g : Bool} (h : Ext w b d t g) (hb : Below B w w') (hB : b < B) : Ext w' b d t g := (hb.block b hB).trans h

/-- Which wide number a number would be made. -/
def pk (d t : Int) (g : Bool) (n : Int) : Int :=
  if g then (if hf d ≤ lw d (IntKind.u64.wrap (n - t)) then IntKind.u64.wrap (IntKind.u64.wrap (t + lw d (IntKind.u64.wrap (n - t))) - pw d) else IntKind.u64.wrap (t + lw d (IntKind.u64.wrap (n - t)))) else pw d + lw d n

theorem peek_yes (b : Nat) (d t n : Int) (w : World) (h0 : 1 ≤ d) (h1 : d ≤ 32) (_t0 : 0 ≤ t) (_t1 : t ≤ 18446744073709551615) (n0 : 0 ≤ n) (n1 : n ≤ 4294967295) (hx : Ext w b d t true) :
    Calls Try.prog 15 #[.pointer (some ⟨b, 0, none⟩), .int .u32 n] w fun e w' => e = .returned (.int .u64 (pk d t true n)) ∧ ∃ k, w' = w.drewN k := by
  obtain ⟨c0, c1, c2⟩ := hx.cells
  clear hx
  have p0 := pw_pos d
  have p1 := pw_le32 d h1
  have wn : IntKind.u64.wrap n = n := by rw [IntKind.wrap_u64]; omega
  go_enter Try.func15, Try.ntmps15
  go_wp2
  go_quiet ((first
      | (go_at_call 25; exact quiet_left (low_any _ _ _ (by omega) (by omega) (by simp [IntKind.wrap_u64]; omega) (by simp [IntKind.wrap_u64]; omega)))
      | (go_at_call 26; exact quiet_left (size_any _ _ (by omega) (by omega)))))
  clear wn
  go_wp2_with (first
      | (go_at_call 23; refine (half_any _ _ (by omega) (by omega)).mono ?_; rintro e w' ⟨rfl, rfl⟩))
  · have hc : hf d ≤ lw d (IntKind.u64.wrap (n - t)) := by assumption
    go_quiet ((first
      | (go_at_call 26; exact quiet_add_left (size_any _ _ (by omega) (by omega)))))
    go_wp2
    go_ret
    exact ⟨ret_int (by unfold pk; rw [if_pos rfl, if_pos hc]), _, World.drewN_drewN _ _ _⟩
  · have hc : lw d (IntKind.u64.wrap (n - t)) < hf d := by assumption
    go_ret
    exact ⟨ret_int (by unfold pk; rw [if_pos rfl, if_neg (by omega)]), _, rfl⟩

theorem peek_no (b : Nat) (d t n : Int) (w : World) (h0 : 1 ≤ d) (h1 : d ≤ 32) (n0 : 0 ≤ n) (n1 : n ≤ 4294967295) (hx : Ext w b d t false) :
    Calls Try.prog 15 #[.pointer (some ⟨b, 0, none⟩), .int .u32 n] w fun e w' => e = .returned (.int .u64 (pk d t false n)) ∧ ∃ k, w' = w.drewN k := by
  obtain ⟨c0, c1, c2⟩ := hx.cells
  clear hx
  have p0 := pw_pos d
  have p1 := pw_le32 d h1
  have l0 := (lw_bd d n).1
  have l1 := (lw_bd d n).2
  have wn : IntKind.u64.wrap n = n := by rw [IntKind.wrap_u64]; omega
  have ws : IntKind.u64.wrap (pw d + lw d n) = pw d + lw d n := by rw [IntKind.wrap_u64]; omega
  go_enter Try.func15, Try.ntmps15
  go_wp2
  go_quiet ((first
      | (go_at_call 25; exact quiet_left (low_any _ _ _ (by omega) (by omega) (by omega) (by omega)))
      | (go_at_call 26; exact quiet_left (size_any _ _ (by omega) (by omega)))))
  clear wn ws
  go_wp2
  go_ret
  exact ⟨ret_int (by unfold pk; rw [if_neg (by simp)]), _, rfl⟩

theorem peek_any (b : Nat) (d t : Int) (g : Bool) (n : Int) (w : World) (h0 : 1 ≤ d) (h1 : d ≤ 32) (t0 : 0 ≤ t) (t1 : t ≤ 18446744073709551615) (n0 : 0 ≤ n) (n1 : n ≤ 4294967295) (hx : Ext w b d t g) :
    Calls Try.prog 15 #[.pointer (some ⟨b, 0, none⟩), .int .u32 n] w fun e w' => e = .returned (.int .u64 (pk d t g n)) ∧ ∃ k, w' = w.drewN k := by
  cases g
  · exact peek_no b d t n w h0 h1 n0 n1 hx
  · exact peek_yes b d t n w h0 h1 t0 t1 n0 n1 hx

theorem top_any (b : Nat) (d t : Int) (g : Bool) (w : World) (hx : Ext w b d t g) :
    Calls Try.prog 14 #[.pointer (some ⟨b, 0, none⟩)] w fun e w' => e = .returned (.tuple #[.int .u64 t, .bool g]) ∧ ∃ k, w' = w.drewN k := by
  obtain ⟨c0, c1, c2⟩ := hx.cells
  clear hx
  go_enter Try.func14, Try.ntmps14
  go_wp2
  go_quiet (fail)
  go_wp2
  go_ret2
  exact ⟨rfl, _, rfl⟩

theorem cut_any (b : Nat) (d t : Int) (g : Bool) (x : Int) (w : World) (h0 : 1 ≤ d) (h1 : d ≤ 32) (x0 : 0 ≤ x) (x1 : x ≤ 18446744073709551615) (hx : Ext w b d t g) :
    Calls Try.prog 17 #[.pointer (some ⟨b, 0, none⟩), .int .u64 x] w fun e w' => e = .returned (.int .u32 (lw d x)) ∧ ∃ k, w' = w.drewN k := by
  obtain ⟨c0, c1, c2⟩ := hx.cells
  clear hx
  have p1 := pw_le32 d h1
  have l0 := (lw_bd d x).1
  have l1 := (lw_bd d x).2
  go_enter Try.func17, Try.ntmps17
  go_wp2_with (first
      | (go_at_call 25; refine (low_any _ _ _ (by omega) (by omega) (by omega) (by omega)).mono ?_; rintro e w' ⟨rfl, rfl⟩))
  go_ret
  exact ⟨rfl, 0, rfl⟩

theorem pk_bd (d t : Int) (g : Bool) (n : Int) (h1 : d ≤ 32) : 0 ≤ pk d t g n ∧ pk d t g n ≤ 18446744073709551615 := by
  have p0 := pw_pos d
  have p1 := pw_le32 d h1
  have l0 := (lw_bd d n).1
  have l1 := (lw_bd d n).2
  unfold pk
  simp only [IntKind.wrap_u64]
  split
  · split <;> omega
  · omega
/-- The top behind a number. -/
def nt (d t : Int) (g : Bool) (n : Int) : Int := if g then (if t < pk d t g n then pk d t g n else t) else pk d t g n
theorem Ext.drewN {w : World} {b : Nat} {d t : Int} {g : Bool} (h : Ext w b d t g) (n : Nat) : Ext (w.drewN n) b d t g := by exact h
theorem Ext.top {w : World} {b : Nat} {d t : Int} {g : Bool} (h : Ext w b d t g) (u : Int) : Ext (w.setCell ⟨b, 1, none⟩ (.int .u64 u)) b d u g := by
  unfold Ext at h ⊢
  simp [World.setCell, Array.getElem?_modify, h]
theorem Ext.began {w : World} {b : Nat} {d t : Int} {g : Bool} (h : Ext w b d t g) : Ext (w.setCell ⟨b, 2, none⟩ (.bool true)) b d t true := by
  unfold Ext at h ⊢
  simp [World.setCell, Array.getElem?_modify, h]
theorem Ext.put1 {w : World} {b : Nat} {d t : Int} {g : Bool} (h : Ext w b d t g) (k : Nat) (u : Int) :
    Ext (((w.drewN k).setCell ⟨b, 1, none⟩ (.int .u64 u)).setCell ⟨b, 2, none⟩ (.bool true)) b d u true := ((h.drewN k).top u).began
theorem Ext.put0 {w : World} {b : Nat} {d t : Int} {g : Bool} (h : Ext w b d t g) (k : Nat) :
    Ext ((w.drewN k).setCell ⟨b, 2, none⟩ (.bool true)) b d t true := (h.drewN k).began
theorem only1 (w : World) (b k : Nat) (u : Value) : w.grownBy ((w.drewN k).setCell ⟨b, 2, none⟩ u) (some b) := only_setCell (only_drewN (World.grownBy.refl w _) _) (.inl rfl) _
theorem only2 (w : World) (b k : Nat) (u v : Value) : w.grownBy (((w.drewN k).setCell ⟨b, 1, none⟩ u).setCell ⟨b, 2, none⟩ v) (some b) := by
  refine only_setCell (p := ⟨b, 2, none⟩) ?_ (.inl rfl) _
  refine only_setCell (p := ⟨b, 1, none⟩) ?_ (.inl rfl) _
  exact only_drewN (World.grownBy.refl w _) _
theorem nt_no (d t n : Int) : nt d t false n = pk d t false n := by unfold nt; simp
theorem nt_hi (d t n : Int) (h : t < pk d t true n) : nt d t true n = pk d t true n := by unfold nt; simp [h]
theorem nt_lo (d t n : Int) (h : pk d t true n ≤ t) : nt d t true n = t := by unfold nt; rw [if_pos rfl, if_neg (by omega)]
theorem next_no (b : Nat) (d t : Int) (n : Int) (w : World) (h0 : 1 ≤ d) (h1 : d ≤ 32) (t0 : 0 ≤ t) (t1 : t ≤ 18446744073709551615) (n0 : 0 ≤ n) (n1 : n ≤ 4294967295) (hx : Ext w b d t false) :
    Calls Try.prog 19 #[.pointer (some ⟨b, 0, none⟩), .int .u32 n] w fun e w' => e = .returned (.tuple #[.int .u64 (pk d t false n), .bool true]) ∧ Ext w' b d (nt d t false n) true ∧ w.grownBy w' (some b) := by
  obtain ⟨c0, c1, c2⟩ := hx.cells
  have f1 := hx.free 1
  have f2 := hx.free 2
  have HX := Lib.hid hx
  clear hx
  rw [nt_no]
  have HP := fun W (hw : Ext W b d t false) => peek_any b d t false n W h0 h1 t0 t1 n0 n1 hw
  generalize pk d t false n = p at *
  go_enter Try.func19, Try.ntmps19
  go_wp2
  go_quiet ((first
    | (go_at_call 15; exact Calls.quiet_of (HP _ (HX.out.drewN _)))))
  go_wp2
  go_ret2
  refine ⟨?_, ?_, ?_⟩
  · rfl
  · exact HX.out.put1 _ _
  · exact only2 _ _ _ _ _
theorem next_yes (b : Nat) (d t : Int) (n : Int) (w : World) (h0 : 1 ≤ d) (h1 : d ≤ 32) (t0 : 0 ≤ t) (t1 : t ≤ 18446744073709551615) (n0 : 0 ≤ n) (n1 : n ≤ 4294967295) (hx : Ext w b d t true) :
    Calls Try.prog 19 #[.pointer (some ⟨b, 0, none⟩), .int .u32 n] w fun e w' => e = .returned (.tuple #[.int .u64 (pk d t true n), .bool false]) ∧ Ext w' b d (nt d t true n) true ∧ w.grownBy w' (some b) := by
  obtain ⟨c0, c1, c2⟩ := hx.cells
  have f1 := hx.free 1
  have f2 := hx.free 2
  have HX := Lib.hid hx
  clear hx
  have HP := fun W (hw : Ext W b d t true) => peek_any b d t true n W h0 h1 t0 t1 n0 n1 hw
  by_cases hc : t < pk d t true n
  · rw [nt_hi d t n hc]
    generalize pk d t true n = p at *
    go_enter Try.func19, Try.ntmps19
    go_wp2
    go_quiet ((first
      | (go_at_call 15; exact Calls.quiet_of (HP _ (HX.out.drewN _)))))
    go_wp2
    go_ret2
    refine ⟨?_, ?_, ?_⟩
    · rfl
    · exact HX.out.put1 _ _
    · exact only2 _ _ _ _ _
  · rw [nt_lo d t n (by omega)]
    generalize pk d t true n = p at *
    go_enter Try.func19, Try.ntmps19
    go_wp2
    go_quiet ((first
      | (go_at_call 15; exact Calls.quiet_of (HP _ (HX.out.drewN _)))))
    go_wp2
    go_ret2
    refine ⟨?_, ?_, ?_⟩
    · rfl
    · exact HX.out.put0 _
    · exact only1 _ _ _ _
theorem next_any (b : Nat) (d t : Int) (g : Bool) (n : Int) (w : World) (h0 : 1 ≤ d) (h1 : d ≤ 32) (t0 : 0 ≤ t) (t1 : t ≤ 18446744073709551615) (n0 : 0 ≤ n) (n1 : n ≤ 4294967295) (hx : Ext w b d t g) :
    Calls Try.prog 19 #[.pointer (some ⟨b, 0, none⟩), .int .u32 n] w fun e w' => e = .returned (.tuple #[.int .u64 (pk d t g n), .bool (!g)]) ∧ Ext w' b d (nt d t g n) true ∧ w.grownBy w' (some b) := by
  cases g
  · exact next_no b d t n w h0 h1 t0 t1 n0 n1 hx
  · exact next_yes b d t n w h0 h1 t0 t1 n0 n1 hx

/-- Is one number ahead of another one? -/
def ah (d a b : Int) : Bool := decide (0 < btw d b a) && decide (btw d b a < hf d)
theorem ahead_yes (d a b : Int) (w : World) (h0 : 1 ≤ d) (h1 : d ≤ 32) (a0 : 0 ≤ a) (a1 : a ≤ 4294967295) (b0 : 0 ≤ b) (b1 : b ≤ 4294967295) :
    Calls Try.prog 8 #[.int .i64 d, .int .u32 a, .int .u32 b] w fun e w' => e = .returned (.bool (ah d a b)) ∧ w = w' := by
  have l0 := (btw_bd d b a).1
  have l1 := (btw_bd d b a).2
  have l2 := pw_le32 d h1
  by_cases hc : 0 < btw d b a
  · go_enter Try.func8, Try.ntmps8
    go_wp2_with (first
      | (go_at_call 10; refine (between_yes _ _ _ _ h0 h1 b0 b1 a0 a1).mono ?_; rintro e w' ⟨rfl, rfl⟩)
      | (go_at_call 23; refine (half_any _ _ (by omega) (by omega)).mono ?_; rintro e w' ⟨rfl, rfl⟩))
    go_ret
    exact ⟨ret_bool (by unfold ah; simp; try omega), rfl⟩
  · go_enter Try.func8, Try.ntmps8
    go_wp2_with (first
      | (go_at_call 10; refine (between_yes _ _ _ _ h0 h1 b0 b1 a0 a1).mono ?_; rintro e w' ⟨rfl, rfl⟩)
      | (go_at_call 23; refine (half_any _ _ (by omega) (by omega)).mono ?_; rintro e w' ⟨rfl, rfl⟩))
    go_ret
    exact ⟨ret_bool (by unfold ah; simp; try omega), rfl⟩
theorem ahead_no (d a b : Int) (w : World) (h0 : d < 1 ∨ 32 < d) :
    Calls Try.prog 8 #[.int .i64 d, .int .u32 a, .int .u32 b] w fun e w' => e = .returned (.bool false) ∧ w = w' := by
  go_enter Try.func8, Try.ntmps8
  go_wp2_with (first
      | (go_at_call 10; refine (between_no _ _ _ _ h0).mono ?_; rintro e w' ⟨rfl, rfl⟩))
  go_ret
  exact ⟨rfl, rfl⟩

theorem new_yes (d : Int) (w : World) (h0 : 1 ≤ d) (h1 : d ≤ 32) :
    Calls Try.prog 13 #[.int .i64 d] w fun e w' => e = .returned (.tuple #[.pointer (some ⟨w.heap.size, 0, none⟩), .int .i64 0]) ∧ w' = w.alloc (.cells #[.int .i64 d, .int .u64 0, .bool false] 55) := by
  go_enter Try.func13, Try.ntmps13
  go_wp2_with (first
      | (go_at_call 24; refine (right_yes _ _ h0 h1).mono ?_; rintro e w' ⟨rfl, rfl⟩))
  go_ret2
  exact ⟨rfl, rfl⟩
theorem new_no (d : Int) (w : World) (h0 : d < 1 ∨ 32 < d) :
    Calls Try.prog 13 #[.int .i64 d] w fun e w' => e = .returned (.tuple #[.pointer none, .int .i64 2]) ∧ w = w' := by
  go_enter Try.func13, Try.ntmps13
  go_wp2_with (first
      | (go_at_call 24; refine (right_no _ _ h0).mono ?_; rintro e w' ⟨rfl, rfl⟩))
  go_ret2
  exact ⟨rfl, rfl⟩
/-! ### an extender that is not there -/
theorem peek_nil (n : Int) (w : World) : Calls Try.prog 15 #[.pointer none, .int .u32 n] w fun e w' => e = .returned (.int .u64 0) ∧ w = w' := by
  go_enter Try.func15, Try.ntmps15
  go_wp2
  go_ret
  exact ⟨rfl, rfl⟩
theorem next_nil (n : Int) (w : World) : Calls Try.prog 19 #[.pointer none, .int .u32 n] w fun e w' => e = .returned (.tuple #[.int .u64 0, .bool false]) ∧ w = w' := by
  go_enter Try.func19, Try.ntmps19
  go_wp2
  go_ret2
  exact ⟨rfl, rfl⟩
theorem top_nil (w : World) : Calls Try.prog 14 #[.pointer none] w fun e w' => e = .returned (.tuple #[.int .u64 0, .bool false]) ∧ w = w' := by
  go_enter Try.func14, Try.ntmps14
  go_wp2
  go_ret2
  exact ⟨rfl, rfl⟩
theorem cut_nil (x : Int) (w : World) : Calls Try.prog 17 #[.pointer none, .int .u64 x] w fun e w' => e = .returned (.int .u32 0) ∧ w = w' := by
  go_enter Try.func17, Try.ntmps17
  go_wp2
  go_ret
  exact ⟨rfl, rfl⟩
end Go.Proofs.Ytlaapogohgijjaa
