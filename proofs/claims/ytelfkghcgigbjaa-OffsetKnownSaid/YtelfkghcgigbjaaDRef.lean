/- The reference's mapper, by contracts. Conditions: a ring of 1 to 63 digits, numbers of their kinds. -/
import Derived.Test.YtelfkghcgigbjaaCWorks
namespace Go.Proofs.Ytelfkghcgigbjaa
open Go.RowKit

theorem two_kept {w w1 : World} {T U : TypeId} {cs ds : Array Value} (hb : Below ((w.alloc (.cells cs T)).alloc (.cells ds U)).heap.size ((w.alloc (.cells cs T)).alloc (.cells ds U)) w1) :
    Blk w1 w.heap.size T cs ∧ Blk w1 (w.heap.size + 1) U ds ∧ Below w.heap.size w w1 := by
  have e : (w.alloc (.cells cs T)).heap.size = w.heap.size + 1 := by simp
  refine ⟨((Blk.new w T cs).alloc _).below hb (by simp; omega), ?_, ?_⟩
  · have h := (Blk.new (w.alloc (.cells cs T)) U ds).below hb (by simp)
    rw [e] at h
    exact h
  · exact (((Below.refl _ _).alloc (Nat.le_refl _) _).alloc (by simp) _).trans (hb.mono (by simp; omega))

theorem five_facts {w : World} {b : Nat} {T : TypeId} {x0 x1 x2 x3 x4 : Value} (h : Blk w b T #[x0, x1, x2, x3, x4]) :
    w.cell? ⟨b, 0, none⟩ = some x0 ∧ w.cell? ⟨b, 1, none⟩ = some x1 ∧ w.cell? ⟨b, 2, none⟩ = some x2 ∧ w.cell? ⟨b, 3, none⟩ = some x3 ∧ w.cell? ⟨b, 4, none⟩ = some x4 :=
  ⟨h.cell 0, h.cell 1, h.cell 2, h.cell 3, h.cell 4⟩
theorem put5 {w : World} {g : Nat} {T : TypeId} {x0 x1 x2 x3 x4 : Value} (h : Blk w g T #[x0, x1, x2, x3, x4]) (a b c d e : Value) :
    Blk (((((w.setCell ⟨g, 0, none⟩ a).setCell ⟨g, 1, none⟩ b).setCell ⟨g, 2, none⟩ c).setCell ⟨g, 3, none⟩ d).setCell ⟨g, 4, none⟩ e) g T #[a, b, c, d, e] := ((((h.set_ 0 a).set_ 1 b).set_ 2 c).set_ 3 d).set_ 4 e
theorem far2 {w : World} {g q : Nat} {T : TypeId} {cs : Array Value} (h : Blk w g T cs) (hne : g ≠ q) (a b : Value) : Blk ((w.setCell ⟨q, 3, none⟩ a).setCell ⟨q, 4, none⟩ b) g T cs :=
  (h.far (p := ⟨q, 3, none⟩) hne a).far (p := ⟨q, 4, none⟩) hne b
theorem below2 {B : Nat} {a w : World} (h : Below B a w) {q : Nat} (hq : B ≤ q) (x y : Value) : Below B a ((w.setCell ⟨q, 3, none⟩ x).setCell ⟨q, 4, none⟩ y) := by
  refine Below.setCell (p := ⟨q, 4, none⟩) ?_ hq _
  exact Below.setCell (p := ⟨q, 3, none⟩) h hq _
theorem below5 {B : Nat} {a w : World} (h : Below B a w) {q : Nat} (hq : B ≤ q) (x0 x1 x2 x3 x4 : Value) :
    Below B a (((((w.setCell ⟨q, 0, none⟩ x0).setCell ⟨q, 1, none⟩ x1).setCell ⟨q, 2, none⟩ x2).setCell ⟨q, 3, none⟩ x3).setCell ⟨q, 4, none⟩ x4) := by
  refine Below.setCell (p := ⟨q, 4, none⟩) ?_ hq _
  refine Below.setCell (p := ⟨q, 3, none⟩) ?_ hq _
  refine Below.setCell (p := ⟨q, 2, none⟩) ?_ hq _
  refine Below.setCell (p := ⟨q, 1, none⟩) ?_ hq _
  exact Below.setCell (p := ⟨q, 0, none⟩) h hq _
set_option maxHeartbeats 1000000 in
theorem rgive_any (r s F l : Int) (g : Bool) (n : Int) (w : World) (h0 : 1 ≤ r) (h1 : r ≤ 63) (n0 : 0 ≤ n) (n1 : n ≤ 18446744073709551615) :
    Calls Try.prog 23 #[.agg #[.int .i64 r, .int .u64 s, .int .u64 F, .int .u64 l, .bool g], .int .u64 n] w
      fun e w' => e = .returned (.tuple #[.agg #[.int .i64 r, .int .u64 s, .int .u64 F, .int .u64 (lw r n), .bool true], .int .u64 (lw r n)]) ∧ Below w.heap.size w w' := by
  go_enter Try.func23, Try.ntmps23
  go_wp2_with fail
  refine (rcut_yes _ _ _ h0 h1 n0 n1).mono ?_
  rintro e w1 ⟨rfl, hw1⟩
  obtain ⟨k0, k1, bl⟩ := two_kept (w := w) (w1 := w1) (by rw [← hw1]; exact Below.refl _ _)
  clear hw1
  have c0 := k0.cell 0
  have c1 := k0.cell 1
  have c2 := k0.cell 2
  have c3 := k0.cell 3
  have c4 := k0.cell 4
  have f3 := k0.frozen 3
  have f4 := k0.frozen 4
  have d0 := k1.cell 0
  have d1 := k1.cell 1
  have d2 := k1.cell 2
  have d3 := k1.cell 3
  have d4 := k1.cell 4
  have g0 := k1.frozen 0
  have g1 := k1.frozen 1
  have g2 := k1.frozen 2
  have g3 := k1.frozen 3
  have g4 := k1.frozen 4
  simp at c0 c1 c2 c3 c4 d0 d1 d2 d3 d4
  have K1 := Lib.hid k1
  clear k0 k1
  have BL := Lib.hid bl
  have hs := bl.size
  clear bl
  go_wp2_with fail
  go_region
  go_wp2
  obtain ⟨w2, hw2⟩ : ∃ w2 : World, (((((((w1.setCell ⟨w.heap.size, 3, none⟩ (.int .u64 (lw r n))).setCell ⟨w.heap.size, 4, none⟩ (.bool true)).setCell ⟨(w.heap.size + 1), 0, none⟩ (.int .i64 r)).setCell ⟨(w.heap.size + 1), 1, none⟩ (.int .u64 s)).setCell ⟨(w.heap.size + 1), 2, none⟩ (.int .u64 F)).setCell ⟨(w.heap.size + 1), 3, none⟩ (.int .u64 (lw r n))).setCell ⟨(w.heap.size + 1), 4, none⟩ (.bool true)).drew = w2 := ⟨_, rfl⟩
  rw [hw2]
  have kk : Blk w2 (w.heap.size + 1) 39 #[.int .i64 r, .int .u64 s, .int .u64 F, .int .u64 (lw r n), .bool true] := by
    rw [← hw2]; exact (put5 (far2 K1.out (by omega) _ _) _ _ _ _ _).drew
  have bb : Below w.heap.size w w2 := by
    rw [← hw2]; exact (below5 (below2 BL.out (Nat.le_refl _) _ _) (by omega) _ _ _ _ _).drew
  clear hw2
  obtain ⟨d0, d1, d2, d3, d4⟩ := five_facts kk
  exact bodyPost_ret (v := .tuple #[.agg #[.int .i64 r, .int .u64 s, .int .u64 F, .int .u64 (lw r n), .bool true], .int .u64 (lw r n)]) (by simp [results, Try.results23, go_sem, d0, d1, d2, d3, d4]) rfl ⟨rfl, bb⟩
/-- What the reference's Next gives. -/
def rx (r F l : Int) (g : Bool) : Int := if g then ad r l 1 else lw r F
theorem rx_nx (r F l : Int) (g : Bool) : nx r (lw r F) l g = rx r F l g := by
  unfold nx rx
  cases g <;> simp [lw_idem]
theorem lw_ad (r l : Int) : lw r (ad r l 1) = ad r l 1 := by unfold ad; exact lw_idem r _
theorem rgive_eq {r n q : Int} (hq : lw r n = q) (s F l : Int) (g : Bool) (w : World) (h0 : 1 ≤ r) (h1 : r ≤ 63) (n0 : 0 ≤ n) (n1 : n ≤ 18446744073709551615) :
    Calls Try.prog 23 #[.agg #[.int .i64 r, .int .u64 s, .int .u64 F, .int .u64 l, .bool g], .int .u64 n] w
      fun e w' => e = .returned (.tuple #[.agg #[.int .i64 r, .int .u64 s, .int .u64 F, .int .u64 q, .bool true], .int .u64 q]) ∧ Below w.heap.size w w' := by
  subst hq; exact rgive_any r s F l g n w h0 h1 n0 n1
set_option maxHeartbeats 1000000 in
theorem rnext_any (r s F l : Int) (g : Bool) (w : World) (h0 : 1 ≤ r) (h1 : r ≤ 63) (F0 : 0 ≤ F) (F1 : F ≤ 18446744073709551615) (l0 : 0 ≤ l) :
    Calls Try.prog 24 #[.agg #[.int .i64 r, .int .u64 s, .int .u64 F, .int .u64 l, .bool g]] w
      fun e w' => e = .returned (.tuple #[.agg #[.int .i64 r, .int .u64 s, .int .u64 F, .int .u64 (rx r F l g), .bool true], .int .u64 (rx r F l g)]) ∧ Below w.heap.size w w' := by
  have hlw := lw_bd r F
  have hla := lw_bd r (l + 1)
  have hpl := pw_le r h1
  have hq : lw r (rx r F l g) = rx r F l g := by
    unfold rx; cases g
    · simp [lw_idem]
    · simpa using lw_ad r l
  have hq0 : 0 ≤ rx r F l g ∧ rx r F l g ≤ 18446744073709551615 := by
    unfold rx ad; cases g
    · simp; omega
    · simp; omega
  have HQ := Lib.hid hq
  clear hq hlw hla hpl
  obtain ⟨q0, q1⟩ := hq0
  have hrx : (if g then ad r l 1 else lw r F) = rx r F l g := rfl
  cases g
  all_goals
    simp only [Bool.false_eq_true, if_false, if_true] at hrx
    generalize hy : rx r F l _ = y at *
    clear hy
    go_enter Try.func24, Try.ntmps24
    go_wp2_with fail
    refine (rcut_yes _ _ _ h0 h1 F0 F1).mono ?_
    rintro e w1 ⟨rfl, hw1⟩
    obtain ⟨k0, k1, bl⟩ := two_kept (w := w) (w1 := w1) (by rw [← hw1]; exact Below.refl _ _)
    clear hw1
    obtain ⟨c0, c1, c2, c3, c4⟩ := five_facts k0
    have K1 := Lib.hid k1
    have BL := Lib.hid bl
    clear k0 k1 bl
    go_wp2_with fail
    try (refine (radd_yes _ _ _ _ h0 h1 l0 (by omega)).mono ?_; rintro e w2 ⟨rfl, kq, rfl⟩; go_wp2_with fail)
    refine (rgive_eq HQ.out _ _ _ _ _ h0 h1 q0 q1).mono ?_
    rintro e w3 ⟨rfl, hb3⟩
    have k1 : Blk w3 (w.heap.size + 1) 39 #[.int .i64 0, .int .u64 0, .int .u64 0, .int .u64 0, .bool false] := by
      first | exact K1.out.below hb3 K1.out.lt | exact (K1.out.drewN _).below hb3 K1.out.lt
    have bl : Below w.heap.size w w3 := BL.out.trans ⟨hb3.os, hb3.tape, hb3.output, hb3.size, fun k hk => hb3.block k (Nat.lt_of_lt_of_le hk BL.out.size)⟩
    clear hb3 K1 BL
    have K2 := Lib.hid k1
    obtain ⟨d0, d1, d2, d3, d4⟩ := five_facts k1
    have g0 := k1.frozen 0
    have g1 := k1.frozen 1
    have g2 := k1.frozen 2
    have g3 := k1.frozen 3
    have g4 := k1.frozen 4
    have BL := Lib.hid bl
    clear bl k1 c0 c1 c2 c3 c4
    go_wp2_with fail
    obtain ⟨w4, hw4⟩ : ∃ w4 : World, (((((w3.setCell ⟨(w.heap.size + 1), 0, none⟩ (.int .i64 r)).setCell ⟨(w.heap.size + 1), 1, none⟩ (.int .u64 s)).setCell ⟨(w.heap.size + 1), 2, none⟩ (.int .u64 F)).setCell ⟨(w.heap.size + 1), 3, none⟩ (.int .u64 y)).setCell ⟨(w.heap.size + 1), 4, none⟩ (.bool true)) = w4 := ⟨_, rfl⟩
    rw [hw4]
    have kk : Blk w4 (w.heap.size + 1) 39 #[.int .i64 r, .int .u64 s, .int .u64 F, .int .u64 y, .bool true] := by
      rw [← hw4]; exact put5 K2.out _ _ _ _ _
    have bb : Below w.heap.size w w4 := by
      rw [← hw4]; exact below5 BL.out (by omega) _ _ _ _ _
    clear hw4 d0 d1 d2 d3 d4
    obtain ⟨d0, d1, d2, d3, d4⟩ := five_facts kk
    exact bodyPost_ret (v := .tuple #[.agg #[.int .i64 r, .int .u64 s, .int .u64 F, .int .u64 y, .bool true], .int .u64 y]) (by simp [results, Try.results24, go_sem, d0, d1, d2, d3, d4]) rfl ⟨rfl, bb⟩
end Go.Proofs.Ytelfkghcgigbjaa
