/- Whatever is called, a mapper answers what the document says: the walk of the law OffsetPlays. Conditions: none but that each argument is of its kind. -/
import Derived.Test.YtelfkghcgigbjaaEActs
import Derived.Test.YtelfkghcgigbjaaLKeeps
namespace Go.Proofs.Ytelfkghcgigbjaa
open Go.RowKit

theorem plays_long (r n : Int) (A : Option Addr) (len cap : Nat) (w : World) (hl : 60 < len) :
    Calls Try.prog 4 #[.int .i64 r, .int .u64 n, .slice A len cap] w fun e w' => e = .returned (.bool true) ∧ Below w.heap.size w w' := by
  go_enter Try.func4, Try.ntmps4
  go_wp2_with (first
    | (go_at_call 17; refine (works_any _).mono ?_; rintro e w' ⟨rfl, hb⟩))
  go_ret
  exact ⟨rfl, hb⟩
theorem plays_no (r n : Int) (A : Option Addr) (len cap : Nat) (w : World) (hl : len ≤ 60) (h0 : r < 1 ∨ 63 < r) :
    Calls Try.prog 4 #[.int .i64 r, .int .u64 n, .slice A len cap] w fun e w' => e = .returned (.bool true) ∧ Below w.heap.size w w' := by
  go_enter Try.func4, Try.ntmps4
  go_wp2_with (first
    | (go_at_call 9; refine (new_no _ _ _ h0).mono ?_; rintro e w' ⟨rfl, rfl⟩)
    | (go_at_call 19; refine (rright_no _ _ h0).mono ?_; rintro e w' ⟨rfl, rfl⟩)
    | (go_at_call 17; refine (works_any _).mono ?_; rintro e w' ⟨rfl, hb⟩))
  go_ret
  exact ⟨rfl, hb⟩
theorem fr_bd (r a b : Int) (h1 : r ≤ 63) : 0 ≤ fr r a b ∧ fr r a b ≤ 18446744073709551615 := by
  have h := lw_bd r (a - b)
  have p := pw_le r h1
  unfold fr; omega
theorem lw_bd2 (r a : Int) (h1 : r ≤ 63) : 0 ≤ lw r a ∧ lw r a ≤ 18446744073709551615 := by
  have h := lw_bd r a
  have p := pw_le r h1
  omega
theorem rx_bd (r F l : Int) (g : Bool) (h1 : r ≤ 63) : 0 ≤ rx r F l g ∧ rx r F l g ≤ 18446744073709551615 := by
  unfold rx ad; cases g
  · simpa using lw_bd2 r F h1
  · simpa using lw_bd2 r (l + 1) h1
theorem three_facts {w : World} {b : Nat} {T : TypeId} {x0 x1 x2 : Value} (h : Blk w b T #[x0, x1, x2]) :
    w.cell? ⟨b, 0, none⟩ = some x0 ∧ w.cell? ⟨b, 1, none⟩ = some x1 ∧ w.cell? ⟨b, 2, none⟩ = some x2 := ⟨h.cell 0, h.cell 1, h.cell 2⟩
theorem five_free {w : World} {b : Nat} {T : TypeId} {cs : Array Value} (h : Blk w b T cs) :
    w.frozen? ⟨b, 0, none⟩ = false ∧ w.frozen? ⟨b, 1, none⟩ = false ∧ w.frozen? ⟨b, 2, none⟩ = false ∧ w.frozen? ⟨b, 3, none⟩ = false ∧ w.frozen? ⟨b, 4, none⟩ = false :=
  ⟨h.frozen 0, h.frozen 1, h.frozen 2, h.frozen 3, h.frozen 4⟩
theorem put1 {w : World} {g : Nat} {T : TypeId} {x0 x1 x2 x3 x4 : Value} (h : Blk w g T #[x0, x1, x2, x3, x4]) (b : Value) :
    Blk (w.setCell ⟨g, 1, none⟩ b) g T #[x0, b, x2, x3, x4] := h.set_ 1 b
theorem far1 {w : World} {g q : Nat} {T : TypeId} {cs : Array Value} (h : Blk w g T cs) (hne : g ≠ q) (a : Value) : Blk (w.setCell ⟨q, 1, none⟩ a) g T cs := h.far (p := ⟨q, 1, none⟩) hne a
theorem below1 {B : Nat} {a w : World} (h : Below B a w) {q : Nat} (hq : B ≤ q) (x : Value) : Below B a (w.setCell ⟨q, 1, none⟩ x) := Below.setCell (p := ⟨q, 1, none⟩) h hq _
theorem far5 {w : World} {g q : Nat} {T : TypeId} {cs : Array Value} (h : Blk w g T cs) (hne : g ≠ q) (a b c d e : Value) :
    Blk (((((w.setCell ⟨q, 0, none⟩ a).setCell ⟨q, 1, none⟩ b).setCell ⟨q, 2, none⟩ c).setCell ⟨q, 3, none⟩ d).setCell ⟨q, 4, none⟩ e) g T cs :=
  ((((h.far (p := ⟨q, 0, none⟩) hne a).far (p := ⟨q, 1, none⟩) hne b).far (p := ⟨q, 2, none⟩) hne c).far (p := ⟨q, 3, none⟩) hne d).far (p := ⟨q, 4, none⟩) hne e
set_option maxHeartbeats 4000000 in
set_option maxRecDepth 100000 in
theorem plays_main (r F : Int) (A : Option Addr) (cap : Nat) (xs : List (Int × Int × Int)) (w : World) (h0 : 1 ≤ r) (h1 : r ≤ 63) (F0 : 0 ≤ F) (F1 : F ≤ 18446744073709551615) (hl : xs.length ≤ 60) (hA : Acts w w.heap.size A xs) :
    Calls Try.prog 4 #[.int .i64 r, .int .u64 F, .slice A xs.length cap] w fun e w' => e = .returned (.bool true) ∧ Below w.heap.size w w' := by
  have HA := Lib.hid hA
  clear hA
  have lF := lw_bd2 r F h1
  obtain ⟨lF0, lF1⟩ := lF
  go_enter Try.func4, Try.ntmps4
  go_wp2_with fail
  refine (new_yes _ _ _ h0 h1 F0 F1).mono ?_
  rintro e w1 ⟨rfl, hw1⟩
  have hx1 : Mp w1 w.heap.size r 0 (lw r F) 0 false := by rw [hw1]; exact Blk.new _ _ _
  have hb1 : Below w.heap.size w w1 := by rw [hw1]; exact (Below.refl _ _).alloc (Nat.le_refl _) _
  have hs : w1.heap.size = w.heap.size + 1 := by rw [hw1]; simp
  clear hw1
  have HS := Lib.hid hs
  have HX := Lib.hid hx1
  have HB := Lib.hid hb1
  clear hx1 hb1 hs
  go_wp2_with fail
  refine (rright_yes _ _ h0 h1).mono ?_
  rintro e w' ⟨rfl, rfl⟩
  go_wp2_with fail
  go_loopw [10] (fun i wr => ∃ (k : Nat) (s l : Int) (g : Bool), k ≤ xs.length ∧ i = .int .i64 k ∧ 0 ≤ s ∧ s ≤ 18446744073709551615 ∧ 0 ≤ l ∧ l ≤ 18446744073709551615 ∧ Mp wr w.heap.size r s (lw r F) l g ∧
      Blk wr w1.heap.size 39 #[.int .i64 r, .int .u64 s, .int .u64 F, .int .u64 l, .bool g] ∧ Below w.heap.size w wr)
    (fun i _ => xs.length - (intOf i).toNat)
  case atStart =>
    have hs := HS.out
    exact ⟨0, 0, 0, false, by omega, rfl, by omega, by omega, by omega, by omega, Mp.below HX.out ((Below.refl w1.heap.size w1).alloc (Nat.le_refl _) _) (by omega), Blk.new _ _ _, HB.out.alloc (by omega) _⟩
  case round =>
    obtain ⟨k, s, l, g, hk, rfl, s0, s1, l0, l1, hm, hr, hb⟩ := hrel
    have hz : w1.heap.size ≠ w.heap.size := by have := HS.out; omega
    have hz' : w.heap.size ≠ w1.heap.size := Ne.symm hz
    have hge : w.heap.size ≤ w1.heap.size := by have := HS.out; omega
    clear HX HB
    by_cases hlt : k < xs.length
    · obtain ⟨x, hx⟩ : ∃ x, xs[k]? = some x := ⟨_, List.getElem?_eq_getElem hlt⟩
      obtain ⟨ad', rfl, hab, hc⟩ := HA.out.2 (by omega)
      obtain ⟨⟨wx0, wx1, wx2⟩, e0, e1, e2⟩ := hc k x hx
      clear hc hx
      obtain ⟨do', p, q⟩ := x
      simp only at wx0 wx1 wx2 e0 e1 e2
      obtain ⟨p0, p1⟩ := u64_bd wx1
      obtain ⟨q0, q1⟩ := u64_bd wx2
      clear wx0 wx1 wx2
      have r1 : wr.cell? ⟨(ad'.add (k * 3)).block, (ad'.add (k * 3)).off + 1, none⟩ = some (.int .u64 p) := by
        show wr.cell? ((ad'.add (k * 3)).add 1) = _
        rw [Go.Deep.add_add]; exact (hb.cell (by rw [block_of_add]; exact hab)).trans e1
      have r2 : wr.cell? ⟨(ad'.add (k * 3)).block, (ad'.add (k * 3)).off + 2, none⟩ = some (.int .u64 q) := by
        show wr.cell? ((ad'.add (k * 3)).add 2) = _
        rw [Go.Deep.add_add]; exact (hb.cell (by rw [block_of_add]; exact hab)).trans e2
      have r0' : wr.cell? (ad'.add (k * 3)) = some (.int .i64 do') := (hb.cell (by rw [block_of_add]; exact hab)).trans e0
      clear e0 e1 e2
      have HM := Lib.hid hm
      have HR := Lib.hid hr
      have HB := Lib.hid hb
      clear hm hr hb
      go_wp2_with fail
      obtain ⟨w2, hw2⟩ : ∃ w2 : World, wr.alloc (.cells #[.int .i64 do', .int .u64 p, .int .u64 q] 41) = w2 := ⟨_, rfl⟩
      obtain ⟨ab, hab2⟩ : ∃ ab : Nat, wr.heap.size = ab := ⟨_, rfl⟩
      have ka : Blk w2 ab 41 #[.int .i64 do', .int .u64 p, .int .u64 q] := by rw [← hw2, ← hab2]; exact Blk.new _ _ _
      have kr : Blk w2 w1.heap.size 39 #[.int .i64 r, .int .u64 s, .int .u64 F, .int .u64 l, .bool g] := by rw [← hw2]; exact HR.out.alloc _
      have km : Mp w2 w.heap.size r s (lw r F) l g := by rw [← hw2]; exact Blk.alloc HM.out _
      have kb : Below w.heap.size w w2 := by rw [← hw2]; exact HB.out.alloc HB.out.size _
      have y1 : ab ≠ w.heap.size := by have := HM.out.lt; omega
      have y2 : ab ≠ w1.heap.size := by have := HR.out.lt; omega
      rw [hw2, hab2]
      clear hw2 hab2 r0' r1 r2 HM HR HB
      obtain ⟨a0, a1, a2⟩ := three_facts ka
      have KA := Lib.hid ka
      have KR := Lib.hid kr
      have KM := Lib.hid km
      have KB := Lib.hid kb
      clear ka kr km kb
      have hpk := pick_bd do' 6 (by omega) (by omega)
      rcases (show pick do' 6 = 0 ∨ pick do' 6 = 1 ∨ pick do' 6 = 2 ∨ pick do' 6 = 5 ∨ pick do' 6 = 3 ∨ pick do' 6 = 4 by omega) with hp | hp | hp | hp | hp | hp
      · have HP := Lib.hid hp
        clear hp hpk
        refine (pick_lit HP.out _ (by omega)).mono ?_
        rintro e w' ⟨rfl, rfl⟩
        go_wp2_with fail
        refine (aim_any _ _ _ _ _ _ _ _ _ h0 h1 KM.out).mono ?_
        rintro e w3 ⟨rfl, km3, hg⟩
        have kr3 := KR.out.grown hg (by simpa using hz)
        have ka3 := KA.out.grown hg (by simpa using y1)
        have kb3 : Below w.heap.size w w3 := KB.out.grown hg KB.out.size (fun k e => by cases e; exact Nat.le_refl _)
        clear hg KR KM KB KA a0 a1 a2
        obtain ⟨a0, a1, a2⟩ := three_facts ka3
        obtain ⟨c0, c1, c2, c3, c4⟩ := five_facts kr3
        obtain ⟨f0, f1, f2, f3, f4⟩ := five_free kr3
        have KA := Lib.hid ka3
        have KR := Lib.hid kr3
        have KM := Lib.hid km3
        have KB := Lib.hid kb3
        clear ka3 kr3 km3 kb3
        go_wp2_with fail
        have hfb := fr_bd r q p h1
        obtain ⟨hf0, hf1⟩ := hfb
        refine (rfar_yes _ _ _ _ h0 h1 q0 q1 p0 p1).mono ?_
        rintro e w' ⟨rfl, rfl⟩
        go_wp2_with fail
        obtain ⟨w8, hw8⟩ : ∃ w8 : World, w3.setCell ⟨w1.heap.size, 1, none⟩ (.int .u64 (fr r q p)) = w8 := ⟨_, rfl⟩
        rw [hw8]
        have kr8 : Blk w8 w1.heap.size 39 #[.int .i64 r, .int .u64 (fr r q p), .int .u64 F, .int .u64 l, .bool g] := by rw [← hw8]; exact put1 KR.out _
        have km8 : Mp w8 w.heap.size r (fr r q p) (lw r F) l g := by rw [← hw8]; exact far1 KM.out hz' _
        have kb8 : Below w.heap.size w w8 := by rw [← hw8]; exact below1 KB.out hge _
        clear hw8 KR KM KB c0 c1 c2 c3 c4 f0 f1 f2 f3 f4
        have KR := Lib.hid kr8
        have KM := Lib.hid km8
        have KB := Lib.hid kb8
        clear kr8 km8 kb8
        refine (last_any _ _ _ _ _ _ _ KM.out).mono ?_
        rintro e w9 ⟨rfl, kq9, hw9⟩
        have kr9 : Blk w9 w1.heap.size 39 #[.int .i64 r, .int .u64 (fr r q p), .int .u64 F, .int .u64 l, .bool g] := by rw [hw9]; exact KR.out.drewN _
        have km9 : Mp w9 w.heap.size r (fr r q p) (lw r F) l g := by rw [hw9]; exact KM.out.drewN _
        have kb9 : Below w.heap.size w w9 := by rw [hw9]; exact below_drewN KB.out _
        clear hw9 KR KM KB
        obtain ⟨c0, c1, c2, c3, c4⟩ := five_facts kr9
        have KR := Lib.hid kr9
        have KM := Lib.hid km9
        have KB := Lib.hid kb9
        clear kr9 km9 kb9
        go_wp2_with fail
        go_roundw
        case rel => first | exact ⟨k + 1, (fr r q p), l, g, by omega, by go_num, hf0, hf1, l0, l1, KM.out, KR.out, KB.out⟩ | ((repeat apply Exists.intro); exact ⟨⟨k + 1, (fr r q p), l, g, by omega, by go_num, hf0, hf1, l0, l1, KM.out, KR.out, KB.out⟩, rfl⟩)
        case measure => simp [intOf]; omega
      · have HP := Lib.hid hp
        clear hp hpk
        refine (pick_lit HP.out _ (by omega)).mono ?_
        rintro e w' ⟨rfl, rfl⟩
        go_wp2_with fail
        refine (map_any _ _ _ _ _ _ _ _ h0 h1 KM.out).mono ?_
        rintro e w3 ⟨rfl, kq3, hw3⟩
        have kr3 : Blk w3 w1.heap.size 39 #[.int .i64 r, .int .u64 s, .int .u64 F, .int .u64 l, .bool g] := by rw [hw3]; exact KR.out.drewN _
        have km3 : Mp w3 w.heap.size r s (lw r F) l g := by rw [hw3]; exact KM.out.drewN _
        have kb3 : Below w.heap.size w w3 := by rw [hw3]; exact below_drewN KB.out _
        have ka3 : Blk w3 ab 41 #[.int .i64 do', .int .u64 p, .int .u64 q] := by rw [hw3]; exact KA.out.drewN _
        clear hw3 KR KM KB KA a0 a1 a2
        obtain ⟨a0, a1, a2⟩ := three_facts ka3
        obtain ⟨c0, c1, c2, c3, c4⟩ := five_facts kr3
        have KA := Lib.hid ka3
        have KR := Lib.hid kr3
        have KM := Lib.hid km3
        have KB := Lib.hid kb3
        clear ka3 kr3 km3 kb3
        go_wp2_with fail
        refine (radd_yes _ _ _ _ h0 h1 p0 s0).mono ?_
        rintro e w4 ⟨rfl, kq4, hw4⟩
        have kr4 : Blk w4 w1.heap.size 39 #[.int .i64 r, .int .u64 s, .int .u64 F, .int .u64 l, .bool g] := by rw [hw4]; exact KR.out.drewN _
        have km4 : Mp w4 w.heap.size r s (lw r F) l g := by rw [hw4]; exact KM.out.drewN _
        have kb4 : Below w.heap.size w w4 := by rw [hw4]; exact below_drewN KB.out _
        have ka4 : Blk w4 ab 41 #[.int .i64 do', .int .u64 p, .int .u64 q] := by rw [hw4]; exact KA.out.drewN _
        clear hw4 KR KM KB KA a0 a1 a2
        obtain ⟨a0, a1, a2⟩ := three_facts ka4
        obtain ⟨c0, c1, c2, c3, c4⟩ := five_facts kr4
        have KA := Lib.hid ka4
        have KR := Lib.hid kr4
        have KM := Lib.hid km4
        have KB := Lib.hid kb4
        clear ka4 kr4 km4 kb4
        go_wp2_with fail
        refine (last_any _ _ _ _ _ _ _ KM.out).mono ?_
        rintro e w9 ⟨rfl, kq9, hw9⟩
        have kr9 : Blk w9 w1.heap.size 39 #[.int .i64 r, .int .u64 s, .int .u64 F, .int .u64 l, .bool g] := by rw [hw9]; exact KR.out.drewN _
        have km9 : Mp w9 w.heap.size r s (lw r F) l g := by rw [hw9]; exact KM.out.drewN _
        have kb9 : Below w.heap.size w w9 := by rw [hw9]; exact below_drewN KB.out _
        clear hw9 KR KM KB
        obtain ⟨c0, c1, c2, c3, c4⟩ := five_facts kr9
        have KR := Lib.hid kr9
        have KM := Lib.hid km9
        have KB := Lib.hid kb9
        clear kr9 km9 kb9
        go_wp2_with fail
        go_roundw
        case rel => first | exact ⟨k + 1, s, l, g, by omega, by go_num, s0, s1, l0, l1, KM.out, KR.out, KB.out⟩ | ((repeat apply Exists.intro); exact ⟨⟨k + 1, s, l, g, by omega, by go_num, s0, s1, l0, l1, KM.out, KR.out, KB.out⟩, rfl⟩)
        case measure => simp [intOf]; omega
      · have HP := Lib.hid hp
        clear hp hpk
        refine (pick_lit HP.out _ (by omega)).mono ?_
        rintro e w' ⟨rfl, rfl⟩
        go_wp2_with fail
        refine (back_any _ _ _ _ _ _ _ _ h0 h1 KM.out).mono ?_
        rintro e w3 ⟨rfl, kq3, hw3⟩
        have kr3 : Blk w3 w1.heap.size 39 #[.int .i64 r, .int .u64 s, .int .u64 F, .int .u64 l, .bool g] := by rw [hw3]; exact KR.out.drewN _
        have km3 : Mp w3 w.heap.size r s (lw r F) l g := by rw [hw3]; exact KM.out.drewN _
        have kb3 : Below w.heap.size w w3 := by rw [hw3]; exact below_drewN KB.out _
        have ka3 : Blk w3 ab 41 #[.int .i64 do', .int .u64 p, .int .u64 q] := by rw [hw3]; exact KA.out.drewN _
        clear hw3 KR KM KB KA a0 a1 a2
        obtain ⟨a0, a1, a2⟩ := three_facts ka3
        obtain ⟨c0, c1, c2, c3, c4⟩ := five_facts kr3
        have KA := Lib.hid ka3
        have KR := Lib.hid kr3
        have KM := Lib.hid km3
        have KB := Lib.hid kb3
        clear ka3 kr3 km3 kb3
        go_wp2_with fail
        refine (rfar_yes _ _ _ _ h0 h1 p0 p1 s0 s1).mono ?_
        rintro e w' ⟨rfl, rfl⟩
        go_wp2_with fail
        refine (last_any _ _ _ _ _ _ _ KM.out).mono ?_
        rintro e w9 ⟨rfl, kq9, hw9⟩
        have kr9 : Blk w9 w1.heap.size 39 #[.int .i64 r, .int .u64 s, .int .u64 F, .int .u64 l, .bool g] := by rw [hw9]; exact KR.out.drewN _
        have km9 : Mp w9 w.heap.size r s (lw r F) l g := by rw [hw9]; exact KM.out.drewN _
        have kb9 : Below w.heap.size w w9 := by rw [hw9]; exact below_drewN KB.out _
        clear hw9 KR KM KB
        obtain ⟨c0, c1, c2, c3, c4⟩ := five_facts kr9
        have KR := Lib.hid kr9
        have KM := Lib.hid km9
        have KB := Lib.hid kb9
        clear kr9 km9 kb9
        go_wp2_with fail
        go_roundw
        case rel => first | exact ⟨k + 1, s, l, g, by omega, by go_num, s0, s1, l0, l1, KM.out, KR.out, KB.out⟩ | ((repeat apply Exists.intro); exact ⟨⟨k + 1, s, l, g, by omega, by go_num, s0, s1, l0, l1, KM.out, KR.out, KB.out⟩, rfl⟩)
        case measure => simp [intOf]; omega
      · have HP := Lib.hid hp
        clear hp hpk
        refine (pick_lit HP.out _ (by omega)).mono ?_
        rintro e w' ⟨rfl, rfl⟩
        go_wp2_with fail
        have hlb := lw_bd2 r p h1
        obtain ⟨hl0, hl1⟩ := hlb
        refine (give_any _ _ _ _ _ _ _ _ h0 h1 p0 p1 KM.out).mono ?_
        rintro e w3 ⟨rfl, km3, hg⟩
        have kr3 := KR.out.grown hg (by simpa using hz)
        have ka3 := KA.out.grown hg (by simpa using y1)
        have kb3 : Below w.heap.size w w3 := KB.out.grown hg KB.out.size (fun k e => by cases e; exact Nat.le_refl _)
        clear hg KR KM KB KA a0 a1 a2
        obtain ⟨a0, a1, a2⟩ := three_facts ka3
        obtain ⟨c0, c1, c2, c3, c4⟩ := five_facts kr3
        obtain ⟨f0, f1, f2, f3, f4⟩ := five_free kr3
        have KA := Lib.hid ka3
        have KR := Lib.hid kr3
        have KM := Lib.hid km3
        have KB := Lib.hid kb3
        clear ka3 kr3 km3 kb3
        go_wp2_with fail
        refine (rgive_any _ _ _ _ _ _ _ h0 h1 p0 p1).mono ?_
        rintro e w4 ⟨rfl, hb4⟩
        have kr4 := KR.out.below hb4 KR.out.lt
        have km4 := KM.out.below hb4 KM.out.lt
        have kb4 : Below w.heap.size w w4 := KB.out.trans (hb4.mono KB.out.size)
        clear hb4 KR KM KB KA a0 a1 a2 c0 c1 c2 c3 c4
        obtain ⟨c0, c1, c2, c3, c4⟩ := five_facts kr4
        obtain ⟨f0, f1, f2, f3, f4⟩ := five_free kr4
        have KR := Lib.hid kr4
        have KM := Lib.hid km4
        have KB := Lib.hid kb4
        clear kr4 km4 kb4
        go_wp2_with fail
        obtain ⟨w8, hw8⟩ : ∃ w8 : World, (((((w4.setCell ⟨w1.heap.size, 0, none⟩ (.int .i64 r)).setCell ⟨w1.heap.size, 1, none⟩ (.int .u64 s)).setCell ⟨w1.heap.size, 2, none⟩ (.int .u64 F)).setCell ⟨w1.heap.size, 3, none⟩ (.int .u64 (lw r p))).setCell ⟨w1.heap.size, 4, none⟩ (.bool true)) = w8 := ⟨_, rfl⟩
        rw [hw8]
        have kr8 : Blk w8 w1.heap.size 39 #[.int .i64 r, .int .u64 s, .int .u64 F, .int .u64 (lw r p), .bool true] := by rw [← hw8]; exact put5 KR.out _ _ _ _ _
        have km8 : Mp w8 w.heap.size r s (lw r F) (lw r p) true := by rw [← hw8]; exact far5 KM.out hz' _ _ _ _ _
        have kb8 : Below w.heap.size w w8 := by rw [← hw8]; exact below5 KB.out hge _ _ _ _ _
        clear hw8 KR KM KB c0 c1 c2 c3 c4 f0 f1 f2 f3 f4
        have KR := Lib.hid kr8
        have KM := Lib.hid km8
        have KB := Lib.hid kb8
        clear kr8 km8 kb8
        refine (last_any _ _ _ _ _ _ _ KM.out).mono ?_
        rintro e w9 ⟨rfl, kq9, hw9⟩
        have kr9 : Blk w9 w1.heap.size 39 #[.int .i64 r, .int .u64 s, .int .u64 F, .int .u64 (lw r p), .bool true] := by rw [hw9]; exact KR.out.drewN _
        have km9 : Mp w9 w.heap.size r s (lw r F) (lw r p) true := by rw [hw9]; exact KM.out.drewN _
        have kb9 : Below w.heap.size w w9 := by rw [hw9]; exact below_drewN KB.out _
        clear hw9 KR KM KB
        obtain ⟨c0, c1, c2, c3, c4⟩ := five_facts kr9
        have KR := Lib.hid kr9
        have KM := Lib.hid km9
        have KB := Lib.hid kb9
        clear kr9 km9 kb9
        go_wp2_with fail
        go_roundw
        case rel => first | exact ⟨k + 1, s, (lw r p), true, by omega, by go_num, s0, s1, hl0, hl1, KM.out, KR.out, KB.out⟩ | ((repeat apply Exists.intro); exact ⟨⟨k + 1, s, (lw r p), true, by omega, by go_num, s0, s1, hl0, hl1, KM.out, KR.out, KB.out⟩, rfl⟩)
        case measure => simp [intOf]; omega
      · have HP := Lib.hid hp
        clear hp hpk
        refine (pick_lit HP.out _ (by omega)).mono ?_
        rintro e w' ⟨rfl, rfl⟩
        go_wp2_with fail
        have hlb := rx_bd r F l g h1
        obtain ⟨hl0, hl1⟩ := hlb
        have HN := Lib.hid (rx_nx r F l g)
        refine (next_lit h0 h1 lF0 lF1 HN.out _ _ _ KM.out).mono ?_
        rintro e w3 ⟨rfl, km3, hg⟩
        have kr3 := KR.out.grown hg (by simpa using hz)
        have ka3 := KA.out.grown hg (by simpa using y1)
        have kb3 : Below w.heap.size w w3 := KB.out.grown hg KB.out.size (fun k e => by cases e; exact Nat.le_refl _)
        clear hg KR KM KB KA a0 a1 a2
        obtain ⟨a0, a1, a2⟩ := three_facts ka3
        obtain ⟨c0, c1, c2, c3, c4⟩ := five_facts kr3
        obtain ⟨f0, f1, f2, f3, f4⟩ := five_free kr3
        have KA := Lib.hid ka3
        have KR := Lib.hid kr3
        have KM := Lib.hid km3
        have KB := Lib.hid kb3
        clear ka3 kr3 km3 kb3
        go_wp2_with fail
        refine (rnext_any _ _ _ _ _ _ h0 h1 F0 F1 l0).mono ?_
        rintro e w4 ⟨rfl, hb4⟩
        have kr4 := KR.out.below hb4 KR.out.lt
        have km4 := KM.out.below hb4 KM.out.lt
        have kb4 : Below w.heap.size w w4 := KB.out.trans (hb4.mono KB.out.size)
        clear hb4 KR KM KB KA a0 a1 a2 c0 c1 c2 c3 c4
        obtain ⟨c0, c1, c2, c3, c4⟩ := five_facts kr4
        obtain ⟨f0, f1, f2, f3, f4⟩ := five_free kr4
        have KR := Lib.hid kr4
        have KM := Lib.hid km4
        have KB := Lib.hid kb4
        clear kr4 km4 kb4
        go_wp2_with fail
        obtain ⟨w8, hw8⟩ : ∃ w8 : World, (((((w4.setCell ⟨w1.heap.size, 0, none⟩ (.int .i64 r)).setCell ⟨w1.heap.size, 1, none⟩ (.int .u64 s)).setCell ⟨w1.heap.size, 2, none⟩ (.int .u64 F)).setCell ⟨w1.heap.size, 3, none⟩ (.int .u64 (rx r F l g))).setCell ⟨w1.heap.size, 4, none⟩ (.bool true)) = w8 := ⟨_, rfl⟩
        rw [hw8]
        have kr8 : Blk w8 w1.heap.size 39 #[.int .i64 r, .int .u64 s, .int .u64 F, .int .u64 (rx r F l g), .bool true] := by rw [← hw8]; exact put5 KR.out _ _ _ _ _
        have km8 : Mp w8 w.heap.size r s (lw r F) (rx r F l g) true := by rw [← hw8]; exact far5 KM.out hz' _ _ _ _ _
        have kb8 : Below w.heap.size w w8 := by rw [← hw8]; exact below5 KB.out hge _ _ _ _ _
        clear hw8 KR KM KB c0 c1 c2 c3 c4 f0 f1 f2 f3 f4
        have KR := Lib.hid kr8
        have KM := Lib.hid km8
        have KB := Lib.hid kb8
        clear kr8 km8 kb8
        refine (last_any _ _ _ _ _ _ _ KM.out).mono ?_
        rintro e w9 ⟨rfl, kq9, hw9⟩
        have kr9 : Blk w9 w1.heap.size 39 #[.int .i64 r, .int .u64 s, .int .u64 F, .int .u64 (rx r F l g), .bool true] := by rw [hw9]; exact KR.out.drewN _
        have km9 : Mp w9 w.heap.size r s (lw r F) (rx r F l g) true := by rw [hw9]; exact KM.out.drewN _
        have kb9 : Below w.heap.size w w9 := by rw [hw9]; exact below_drewN KB.out _
        clear hw9 KR KM KB
        obtain ⟨c0, c1, c2, c3, c4⟩ := five_facts kr9
        have KR := Lib.hid kr9
        have KM := Lib.hid km9
        have KB := Lib.hid kb9
        clear kr9 km9 kb9
        go_wp2_with fail
        go_roundw
        case rel => first | exact ⟨k + 1, s, (rx r F l g), true, by omega, by go_num, s0, s1, hl0, hl1, KM.out, KR.out, KB.out⟩ | ((repeat apply Exists.intro); exact ⟨⟨k + 1, s, (rx r F l g), true, by omega, by go_num, s0, s1, hl0, hl1, KM.out, KR.out, KB.out⟩, rfl⟩)
        case measure => simp [intOf]; omega
      · have HP := Lib.hid hp
        clear hp hpk
        refine (pick_lit HP.out _ (by omega)).mono ?_
        rintro e w' ⟨rfl, rfl⟩
        go_wp2_with fail
        have hlb := rx_bd r F l g h1
        obtain ⟨hl0, hl1⟩ := hlb
        have HN := Lib.hid (rx_nx r F l g)
        refine (next_lit h0 h1 lF0 lF1 HN.out _ _ _ KM.out).mono ?_
        rintro e w3 ⟨rfl, km3, hg⟩
        have kr3 := KR.out.grown hg (by simpa using hz)
        have ka3 := KA.out.grown hg (by simpa using y1)
        have kb3 : Below w.heap.size w w3 := KB.out.grown hg KB.out.size (fun k e => by cases e; exact Nat.le_refl _)
        clear hg KR KM KB KA a0 a1 a2
        obtain ⟨a0, a1, a2⟩ := three_facts ka3
        obtain ⟨c0, c1, c2, c3, c4⟩ := five_facts kr3
        obtain ⟨f0, f1, f2, f3, f4⟩ := five_free kr3
        have KA := Lib.hid ka3
        have KR := Lib.hid kr3
        have KM := Lib.hid km3
        have KB := Lib.hid kb3
        clear ka3 kr3 km3 kb3
        go_wp2_with fail
        refine (rnext_any _ _ _ _ _ _ h0 h1 F0 F1 l0).mono ?_
        rintro e w4 ⟨rfl, hb4⟩
        have kr4 := KR.out.below hb4 KR.out.lt
        have km4 := KM.out.below hb4 KM.out.lt
        have kb4 : Below w.heap.size w w4 := KB.out.trans (hb4.mono KB.out.size)
        clear hb4 KR KM KB KA a0 a1 a2 c0 c1 c2 c3 c4
        obtain ⟨c0, c1, c2, c3, c4⟩ := five_facts kr4
        obtain ⟨f0, f1, f2, f3, f4⟩ := five_free kr4
        have KR := Lib.hid kr4
        have KM := Lib.hid km4
        have KB := Lib.hid kb4
        clear kr4 km4 kb4
        go_wp2_with fail
        obtain ⟨w8, hw8⟩ : ∃ w8 : World, (((((w4.setCell ⟨w1.heap.size, 0, none⟩ (.int .i64 r)).setCell ⟨w1.heap.size, 1, none⟩ (.int .u64 s)).setCell ⟨w1.heap.size, 2, none⟩ (.int .u64 F)).setCell ⟨w1.heap.size, 3, none⟩ (.int .u64 (rx r F l g))).setCell ⟨w1.heap.size, 4, none⟩ (.bool true)) = w8 := ⟨_, rfl⟩
        rw [hw8]
        have kr8 : Blk w8 w1.heap.size 39 #[.int .i64 r, .int .u64 s, .int .u64 F, .int .u64 (rx r F l g), .bool true] := by rw [← hw8]; exact put5 KR.out _ _ _ _ _
        have km8 : Mp w8 w.heap.size r s (lw r F) (rx r F l g) true := by rw [← hw8]; exact far5 KM.out hz' _ _ _ _ _
        have kb8 : Below w.heap.size w w8 := by rw [← hw8]; exact below5 KB.out hge _ _ _ _ _
        clear hw8 KR KM KB c0 c1 c2 c3 c4 f0 f1 f2 f3 f4
        have KR := Lib.hid kr8
        have KM := Lib.hid km8
        have KB := Lib.hid kb8
        clear kr8 km8 kb8
        refine (last_any _ _ _ _ _ _ _ KM.out).mono ?_
        rintro e w9 ⟨rfl, kq9, hw9⟩
        have kr9 : Blk w9 w1.heap.size 39 #[.int .i64 r, .int .u64 s, .int .u64 F, .int .u64 (rx r F l g), .bool true] := by rw [hw9]; exact KR.out.drewN _
        have km9 : Mp w9 w.heap.size r s (lw r F) (rx r F l g) true := by rw [hw9]; exact KM.out.drewN _
        have kb9 : Below w.heap.size w w9 := by rw [hw9]; exact below_drewN KB.out _
        clear hw9 KR KM KB
        obtain ⟨c0, c1, c2, c3, c4⟩ := five_facts kr9
        have KR := Lib.hid kr9
        have KM := Lib.hid km9
        have KB := Lib.hid kb9
        clear kr9 km9 kb9
        go_wp2_with fail
        go_roundw
        case rel => first | exact ⟨k + 1, s, (rx r F l g), true, by omega, by go_num, s0, s1, hl0, hl1, KM.out, KR.out, KB.out⟩ | ((repeat apply Exists.intro); exact ⟨⟨k + 1, s, (rx r F l g), true, by omega, by go_num, s0, s1, hl0, hl1, KM.out, KR.out, KB.out⟩, rfl⟩)
        case measure => simp [intOf]; omega
    · have e : k = xs.length := by omega
      subst e
      have HM := Lib.hid hm
      have HB := Lib.hid hb
      clear hm hb hr
      go_wp2_with fail
      refine (digits_any _ _ _ _ _ _ _ HM.out).mono ?_
      rintro e w' ⟨rfl, rfl⟩
      go_wp2_with (first
        | (go_at_call 17; refine (works_any _).mono ?_; rintro e w' ⟨rfl, hb'⟩))
      go_ret
      exact ⟨rfl, HB.out.trans (hb'.mono HB.out.size)⟩
theorem plays_any (r F : Int) (v : Value) (w : World) (_w0 : (Lit.int .i64 r).wf = true) (w1 : (Lit.int .u64 F).wf = true) (w2 : IsActs w v) :
    Calls Try.prog 4 #[.int .i64 r, .int .u64 F, v] w fun e w' => e = .returned (.bool true) ∧ Below w.heap.size w w' := by
  obtain ⟨F0, F1⟩ := u64_bd w1
  obtain ⟨A, cap, xs, rfl, _, _, hA⟩ := w2
  by_cases hl : 60 < xs.length
  · exact plays_long r F A _ cap w hl
  · by_cases h : r < 1 ∨ 63 < r
    · exact plays_no r F A _ cap w (by omega) h
    · exact plays_main r F A cap xs w (by omega) (by omega) F0 F1 (by omega) hA
end Go.Proofs.Ytelfkghcgigbjaa
