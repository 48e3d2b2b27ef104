/- The mapper's own functions, each by a contract. Conditions: a ring of 1 to 63 digits, numbers of their kinds. -/
import Derived.Test.YtelfkghcgigbjaaARing
namespace Go.Proofs.Ytelfkghcgigbjaa
open Go.RowKit

def Mp (w : World) (b : Nat) (r s f l : Int) (g : Bool) : Prop := Blk w b 57 #[.int .i64 r, .int .u64 s, .int .u64 f, .int .u64 l, .bool g]
section
variable {w w' : World} {b : Nat} {r s f l : Int} {g : Bool}
theorem Mp.lt (h : Mp w b r s f l g) : b < w.heap.size := Blk.lt h
theorem Mp.cells (h : Mp w b r s f l g) :
    w.cell? ⟨b, 0, none⟩ = some (.int .i64 r) ∧ w.cell? ⟨b, 1, none⟩ = some (.int .u64 s) ∧ w.cell? ⟨b, 2, none⟩ = some (.int .u64 f) ∧ w.cell? ⟨b, 3, none⟩ = some (.int .u64 l) ∧ w.cell? ⟨b, 4, none⟩ = some (.bool g) :=
  ⟨Blk.cell h 0, Blk.cell h 1, Blk.cell h 2, Blk.cell h 3, Blk.cell h 4⟩
theorem Mp.free (h : Mp w b r s f l g) (i : Nat) : w.frozen? ⟨b, i, none⟩ = false := Blk.frozen h i
theorem Mp.below {B : Nat} (h : Mp w b r s f l g) (hb : Below B w w') (hB : b < B) : Mp w' b r s f l g := Blk.below h hb hB
theorem Mp.drewN (h : Mp w b r s f l g) (n : Nat) : Mp (w.drewN n) b r s f l g := by exact h
theorem Mp.step (h : Mp w b r s f l g) (u : Int) : Mp (w.setCell ⟨b, 1, none⟩ (.int .u64 u)) b r u f l g := Blk.set_ h 1 (.int .u64 u)
theorem Mp.gave (h : Mp w b r s f l g) (u : Int) : Mp ((w.setCell ⟨b, 3, none⟩ (.int .u64 u)).setCell ⟨b, 4, none⟩ (.bool true)) b r s f u true :=
  Blk.set_ (Blk.set_ h 3 (.int .u64 u)) 4 (.bool true)
end
theorem only_one (w : World) (b i : Nat) (u : Value) : w.grownBy (w.setCell ⟨b, i, none⟩ u) (some b) := only_setCell (p := ⟨b, i, none⟩) (World.grownBy.refl w _) (.inl rfl) _
theorem only_two (w : World) (b i j : Nat) (u v : Value) : w.grownBy ((w.setCell ⟨b, i, none⟩ u).setCell ⟨b, j, none⟩ v) (some b) := by
  refine only_setCell (p := ⟨b, j, none⟩) ?_ (.inl rfl) _
  exact only_setCell (p := ⟨b, i, none⟩) (World.grownBy.refl w _) (.inl rfl) _

theorem new_yes (d n : Int) (w : World) (h0 : 1 ≤ d) (h1 : d ≤ 63) (n0 : 0 ≤ n) (n1 : n ≤ 18446744073709551615) :
    Calls Try.prog 9 #[.int .i64 d, .int .u64 n] w fun e w' => e = .returned (.tuple #[.pointer (some ⟨w.heap.size, 0, none⟩), .int .i64 0]) ∧ w' = w.alloc (.cells #[.int .i64 d, .int .u64 0, .int .u64 (lw d n), .int .u64 0, .bool false] 57) := by
  go_enter Try.func9, Try.ntmps9
  go_wp2_with (first
    | (go_at_call 29; refine (right_yes _ _ h0 h1).mono ?_; rintro e w' ⟨rfl, rfl⟩)
    | (go_at_call 11; refine (cut_yes _ _ _ h0 h1 n0 n1).mono ?_; rintro e w' ⟨rfl, rfl⟩))
  go_ret2
  exact ⟨rfl, rfl⟩
theorem new_no (d n : Int) (w : World) (h0 : d < 1 ∨ 63 < d) :
    Calls Try.prog 9 #[.int .i64 d, .int .u64 n] w fun e w' => e = .returned (.tuple #[.pointer none, .int .i64 2]) ∧ w = w' := by
  go_enter Try.func9, Try.ntmps9
  go_wp2_with (first
    | (go_at_call 29; refine (right_no _ _ h0).mono ?_; rintro e w' ⟨rfl, rfl⟩))
  go_ret2
  exact ⟨rfl, rfl⟩
theorem map_any (b : Nat) (r s f l : Int) (g : Bool) (n : Int) (w : World) (h0 : 1 ≤ r) (h1 : r ≤ 63) (hx : Mp w b r s f l g) :
    Calls Try.prog 10 #[.pointer (some ⟨b, 0, none⟩), .int .u64 n] w fun e w' => e = .returned (.int .u64 (ad r n s)) ∧ ∃ k, w' = w.drewN k := by
  obtain ⟨c0, c1, c2, c3, c4⟩ := hx.cells
  clear hx c2 c3 c4
  go_enter Try.func10, Try.ntmps10
  go_wp2
  go_quiet ((first
    | (go_at_call 18; exact quiet_left (add_yes _ _ _ _ h0 h1))))
  go_wp2
  go_ret
  exact ⟨rfl, _, rfl⟩
theorem back_any (b : Nat) (r s f l : Int) (g : Bool) (n : Int) (w : World) (h0 : 1 ≤ r) (h1 : r ≤ 63) (hx : Mp w b r s f l g) :
    Calls Try.prog 14 #[.pointer (some ⟨b, 0, none⟩), .int .u64 n] w fun e w' => e = .returned (.int .u64 (fr r n s)) ∧ ∃ k, w' = w.drewN k := by
  obtain ⟨c0, c1, c2, c3, c4⟩ := hx.cells
  clear hx c2 c3 c4
  go_enter Try.func14, Try.ntmps14
  go_wp2
  go_quiet ((first
    | (go_at_call 13; exact quiet_left (far_yes _ _ _ _ h0 h1))))
  go_wp2
  go_ret
  exact ⟨rfl, _, rfl⟩
theorem aim_any (b : Nat) (r s f l : Int) (g : Bool) (x y : Int) (w : World) (h0 : 1 ≤ r) (h1 : r ≤ 63) (hx : Mp w b r s f l g) :
    Calls Try.prog 12 #[.pointer (some ⟨b, 0, none⟩), .int .u64 x, .int .u64 y] w fun e w' => e = .returned (.int .i64 0) ∧ Mp w' b r (fr r y x) f l g ∧ w.grownBy w' (some b) := by
  obtain ⟨c0, c1, c2, c3, c4⟩ := hx.cells
  have f1 := hx.free 1
  have HX := Lib.hid hx
  clear hx c2 c3 c4
  go_enter Try.func12, Try.ntmps12
  go_wp2_with (first
    | (go_at_call 13; refine (far_yes _ _ _ _ h0 h1).mono ?_; rintro e w' ⟨rfl, rfl⟩))
  go_ret
  refine ⟨rfl, ?_, ?_⟩
  · exact HX.out.step _
  · exact only_one _ _ _ _
theorem give_any (b : Nat) (r s f l : Int) (g : Bool) (n : Int) (w : World) (h0 : 1 ≤ r) (h1 : r ≤ 63) (n0 : 0 ≤ n) (n1 : n ≤ 18446744073709551615) (hx : Mp w b r s f l g) :
    Calls Try.prog 22 #[.pointer (some ⟨b, 0, none⟩), .int .u64 n] w fun e w' => e = .returned (.int .u64 (lw r n)) ∧ Mp w' b r s f (lw r n) true ∧ w.grownBy w' (some b) := by
  obtain ⟨c0, c1, c2, c3, c4⟩ := hx.cells
  have f3 := hx.free 3
  have f4 := hx.free 4
  have HX := Lib.hid hx
  clear hx c1 c2
  go_enter Try.func22, Try.ntmps22
  go_wp2_with (first
    | (go_at_call 11; refine (cut_yes _ _ _ h0 h1 n0 n1).mono ?_; rintro e w' ⟨rfl, rfl⟩))
  go_ret
  refine ⟨rfl, ?_, ?_⟩
  · exact HX.out.gave _
  · exact only_two _ _ _ _ _ _
/-- The next number. -/
def nx (r f l : Int) (g : Bool) : Int := if g then ad r l 1 else lw r f
theorem next_any (b : Nat) (r s f l : Int) (g : Bool) (w : World) (h0 : 1 ≤ r) (h1 : r ≤ 63) (f0 : 0 ≤ f) (f1 : f ≤ 18446744073709551615) (hx : Mp w b r s f l g) :
    Calls Try.prog 16 #[.pointer (some ⟨b, 0, none⟩)] w fun e w' => e = .returned (.int .u64 (nx r f l g)) ∧ Mp w' b r s f (nx r f l g) true ∧ w.grownBy w' (some b) := by
  obtain ⟨c0, c1, c2, c3, c4⟩ := hx.cells
  have HX := Lib.hid hx
  clear hx c1
  cases g
  · have e : nx r f l false = lw r f := by unfold nx; simp
    rw [e]
    clear e
    go_enter Try.func16, Try.ntmps16
    go_wp2_with (first
      | (go_at_call 22; refine (give_any _ _ _ _ _ _ _ _ h0 h1 f0 f1 HX.out).mono ?_; rintro e w' ⟨rfl, hm, hg⟩))
    go_ret
    exact ⟨rfl, hm, hg⟩
  · have e : nx r f l true = lw r (IntKind.u64.wrap (l + 1)) := by unfold nx; rw [if_pos rfl, lw_wrap r _ h1]; rfl
    rw [e]
    clear e
    have hb := wrap_bd (l + 1)
    go_enter Try.func16, Try.ntmps16
    go_wp2_with (first
      | (go_at_call 22; refine (give_any _ _ _ _ _ _ _ _ h0 h1 (by omega) (by omega) HX.out).mono ?_; rintro e w' ⟨rfl, hm, hg⟩))
    go_ret
    exact ⟨rfl, hm, hg⟩
theorem last_any (b : Nat) (r s f l : Int) (g : Bool) (w : World) (hx : Mp w b r s f l g) :
    Calls Try.prog 25 #[.pointer (some ⟨b, 0, none⟩)] w fun e w' => e = .returned (.tuple #[.int .u64 l, .bool g]) ∧ ∃ k, w' = w.drewN k := by
  obtain ⟨c0, c1, c2, c3, c4⟩ := hx.cells
  clear hx
  go_enter Try.func25, Try.ntmps25
  go_wp2
  go_quiet (fail)
  go_wp2
  go_ret2
  exact ⟨rfl, _, rfl⟩
theorem digits_any (b : Nat) (r s f l : Int) (g : Bool) (w : World) (hx : Mp w b r s f l g) :
    Calls Try.prog 26 #[.pointer (some ⟨b, 0, none⟩)] w fun e w' => e = .returned (.int .i64 r) ∧ w = w' := by
  obtain ⟨c0, c1, c2, c3, c4⟩ := hx.cells
  clear hx
  go_enter Try.func26, Try.ntmps26
  go_wp2
  go_ret
  exact ⟨rfl, rfl⟩
/-! ### a mapper that is not there -/
theorem map_nil (n : Int) (w : World) : Calls Try.prog 10 #[.pointer none, .int .u64 n] w fun e w' => e = .returned (.int .u64 0) ∧ w = w' := by
  go_enter Try.func10, Try.ntmps10
  go_wp2
  go_ret
  exact ⟨rfl, rfl⟩
theorem back_nil (n : Int) (w : World) : Calls Try.prog 14 #[.pointer none, .int .u64 n] w fun e w' => e = .returned (.int .u64 0) ∧ w = w' := by
  go_enter Try.func14, Try.ntmps14
  go_wp2
  go_ret
  exact ⟨rfl, rfl⟩
theorem aim_nil (x y : Int) (w : World) : Calls Try.prog 12 #[.pointer none, .int .u64 x, .int .u64 y] w fun e w' => e = .returned (.int .i64 1) ∧ w = w' := by
  go_enter Try.func12, Try.ntmps12
  go_wp2
  go_ret
  exact ⟨rfl, rfl⟩
theorem give_nil (n : Int) (w : World) : Calls Try.prog 22 #[.pointer none, .int .u64 n] w fun e w' => e = .returned (.int .u64 0) ∧ w = w' := by
  go_enter Try.func22, Try.ntmps22
  go_wp2
  go_ret
  exact ⟨rfl, rfl⟩
theorem next_nil (w : World) : Calls Try.prog 16 #[.pointer none] w fun e w' => e = .returned (.int .u64 0) ∧ w = w' := by
  go_enter Try.func16, Try.ntmps16
  go_wp2
  go_ret
  exact ⟨rfl, rfl⟩
theorem last_nil (w : World) : Calls Try.prog 25 #[.pointer none] w fun e w' => e = .returned (.tuple #[.int .u64 0, .bool false]) ∧ w = w' := by
  go_enter Try.func25, Try.ntmps25
  go_wp2
  go_ret2
  exact ⟨rfl, rfl⟩
theorem digits_nil (w : World) : Calls Try.prog 26 #[.pointer none] w fun e w' => e = .returned (.int .i64 0) ∧ w = w' := by
  go_enter Try.func26, Try.ntmps26
  go_wp2
  go_ret
  exact ⟨rfl, rfl⟩
end Go.Proofs.Ytelfkghcgigbjaa
