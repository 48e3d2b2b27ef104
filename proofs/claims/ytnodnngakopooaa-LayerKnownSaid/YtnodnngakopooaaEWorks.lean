/- The chapter's examples. Conditions: none. -/
import Derived.Test.YtnodnngakopooaaDFil
import Derived.Deep.RegionHeld3
namespace Go.Proofs.Ytnodnngakopooaa
open Go.RowKit

def xB : Fa := ⟨false, 0, false, false, false, 0⟩
def xK : Fa := ⟨true, 0, false, false, false, 0⟩
def x1 : Fa := ⟨false, 1, false, false, false, 0⟩
def x2 : Fa := ⟨false, 2, false, false, false, 0⟩
def xS : Fa := ⟨false, 2, true, false, false, 0⟩
/-- The boxes of the frames. -/
def Bx (w : World) (B : Nat) : Prop := Blk w B 33 xB.cells ∧ Blk w (B + 1) 33 xK.cells ∧ Blk w (B + 2) 33 x1.cells ∧ Blk w (B + 3) 33 x2.cells ∧ Blk w (B + 4) 33 xS.cells
/-- One box's cells. -/
def Cx (w : World) (B : Nat) (a : Bool) (t : Int) (s : Bool) : Prop := w.cell? ⟨B, 0, none⟩ = some (.bool a) ∧ w.cell? ⟨B, 1, none⟩ = some (.int .u8 t) ∧ w.cell? ⟨B, 2, none⟩ = some (.bool s) ∧ w.cell? ⟨B, 3, none⟩ = some (.bool false) ∧ w.cell? ⟨B, 4, none⟩ = some (.bool false) ∧ w.cell? ⟨B, 5, none⟩ = some (.int .u8 0)
theorem bx_cells {w : World} {B : Nat} (h : Bx w B) : Cx w B false 0 false ∧ Cx w (B + 1) true 0 false ∧ Cx w (B + 2) false 1 false ∧ Cx w (B + 3) false 2 false ∧ Cx w (B + 4) false 2 true :=
  ⟨⟨h.1.cell 0, h.1.cell 1, h.1.cell 2, h.1.cell 3, h.1.cell 4, h.1.cell 5⟩, ⟨h.2.1.cell 0, h.2.1.cell 1, h.2.1.cell 2, h.2.1.cell 3, h.2.1.cell 4, h.2.1.cell 5⟩, ⟨h.2.2.1.cell 0, h.2.2.1.cell 1, h.2.2.1.cell 2, h.2.2.1.cell 3, h.2.2.1.cell 4, h.2.2.1.cell 5⟩, ⟨h.2.2.2.1.cell 0, h.2.2.2.1.cell 1, h.2.2.2.1.cell 2, h.2.2.2.1.cell 3, h.2.2.2.1.cell 4, h.2.2.2.1.cell 5⟩, ⟨h.2.2.2.2.cell 0, h.2.2.2.2.cell 1, h.2.2.2.2.cell 2, h.2.2.2.2.cell 3, h.2.2.2.2.cell 4, h.2.2.2.2.cell 5⟩⟩
theorem bx_grown {w w' : World} {B b : Nat} (h : Bx w B) (hg : w.grownBy w' (some b)) (hb : b < B) : Bx w' B :=
  ⟨h.1.grown hg (by simp; omega), h.2.1.grown hg (by simp; omega), h.2.2.1.grown hg (by simp; omega), h.2.2.2.1.grown hg (by simp; omega), h.2.2.2.2.grown hg (by simp; omega)⟩
theorem below_only {w0 w w' : World} {b : Nat} (hb : b ≤ w0.heap.size) (h : Below b w0 w) (g : w.grownBy w' (some b)) : Below b w0 w' := h.grown g (Nat.le_trans hb h.size) fun j e => by cases e; exact Nat.le_refl _
/-- What the examples keep: the filter, the boxes, the rows made. -/
def Wk (w0 w : World) (b B : Nat) (f : Fl) (L : List (Nat × Array Value)) : Prop := Fb w b f ∧ Bx w B ∧ Below b w0 w ∧ ∀ p ∈ L, Blk w p.1 37 p.2 ∧ p.1 ≠ b
theorem wk_drew {w0 w : World} {b B : Nat} {f : Fl} {L : List (Nat × Array Value)} (h : Wk w0 w b B f L) : Wk w0 w.drew b B f L := ⟨h.1, h.2.1, h.2.2.1.drew, h.2.2.2⟩
theorem wk_only {w0 w w' : World} {b B : Nat} {f f' : Fl} {L : List (Nat × Array Value)} (h : Wk w0 w b B f L) (hbB : b < B) (hb0 : b ≤ w0.heap.size) (hf : Fb w' b f') (hg : w.grownBy w' (some b)) : Wk w0 w' b B f' L :=
  ⟨hf, bx_grown h.2.1 hg hbB, below_only hb0 h.2.2.1 hg, fun p hp => ⟨(h.2.2.2 p hp).1.grown hg (by have := (h.2.2.2 p hp).2; simpa using this), (h.2.2.2 p hp).2⟩⟩
theorem bx_below {w w' : World} {B : Nat} (h : Bx w B) (hb : Below w.heap.size w w') : Bx w' B :=
  ⟨h.1.below hb h.1.lt, h.2.1.below hb h.2.1.lt, h.2.2.1.below hb h.2.2.1.lt, h.2.2.2.1.below hb h.2.2.2.1.lt, h.2.2.2.2.below hb h.2.2.2.2.lt⟩
theorem wk_row {w0 w w' : World} {b B : Nat} {f : Fl} {L : List (Nat × Array Value)} (h : Wk w0 w b B f L) (cs : Array Value) (e : w.alloc (.cells cs 37) = w') : Wk w0 w' b B f ((w.heap.size, cs) :: L) := by
  subst e
  have hl := h.1.lt
  have hb : Below w.heap.size w (w.alloc (.cells cs 37)) := (Below.refl _ w).alloc (Nat.le_refl _) _
  refine ⟨h.1.alloc _, bx_below h.2.1 hb, h.2.2.1.alloc (by omega) _, fun p hp => ?_⟩
  rcases List.mem_cons.1 hp with rfl | hp
  · exact ⟨Blk.new w 37 cs, by show w.heap.size ≠ b; omega⟩
  · exact ⟨(h.2.2.2 p hp).1.alloc _, (h.2.2.2 p hp).2⟩
theorem wk_alloc {w0 w : World} {b B : Nat} {f : Fl} {L : List (Nat × Array Value)} (h : Wk w0 w b B f L) (o : Obj) : Wk w0 (w.alloc o) b B f L := by
  have hl := h.1.lt
  have hb : Below w.heap.size w (w.alloc o) := (Below.refl _ w).alloc (Nat.le_refl _) _
  exact ⟨h.1.alloc _, bx_below h.2.1 hb, h.2.2.1.alloc (by omega) _, fun p hp => ⟨(h.2.2.2 p hp).1.alloc _, (h.2.2.2 p hp).2⟩⟩
theorem fr_works {b B : Nat} {f f' : Fl} {x : Fa} {v : Int} {w0 w : World} {L : List (Nat × Array Value)} (hv : act f x (rule f x) = (f', v)) (hx : x.ok) (hf : f.ok) (hbB : b < B) (hb0 : b ≤ w0.heap.size) (h : Wk w0 w b B f L) :
    Calls Try.prog 18 #[.pointer (some ⟨b, 0, none⟩), .agg x.cells] w fun e w' => e = .returned (.int .i64 v) ∧ Hid (Wk w0 w' b B f' L) ∧ Bx w' B := by
  refine (frame_any b f x w h.1 hx hf).mono ?_
  rintro e w' ⟨rfl, hf', hg⟩
  rw [hv] at hf' ⊢
  exact ⟨rfl, Lib.hid (wk_only h hbB hb0 hf' hg), bx_grown h.2.1 hg hbB⟩
theorem cap_works {b B : Nat} {f f' : Fl} {n : Int} {w0 w : World} {L : List (Nat × Array Value)} (hv : f.cap n = f') (hbB : b < B) (hb0 : b ≤ w0.heap.size) (h : Wk w0 w b B f L) :
    Calls Try.prog 16 #[.pointer (some ⟨b, 0, none⟩), .int .i64 n] w fun e w' => e = .returned (.tuple #[]) ∧ Hid (Wk w0 w' b B f' L) := by
  subst hv
  exact (cap_any b f n w h.1).mono fun e w' g => ⟨g.1, Lib.hid (wk_only h hbB hb0 g.2.1 g.2.2)⟩
theorem lost_works {b B : Nat} {f f' : Fl} {v : Bool} {w0 w : World} {L : List (Nat × Array Value)} (hv : f.lost false 0 false = (f', v)) (hf : f.ok) (hbB : b < B) (hb0 : b ≤ w0.heap.size) (h : Wk w0 w b B f L) :
    Calls Try.prog 15 #[.pointer (some ⟨b, 0, none⟩), .bool false, .int .u8 0, .bool false] w fun e w' => e = .returned (.bool v) ∧ Hid (Wk w0 w' b B f' L) := by
  refine (lost_any b f false 0 false w (by omega) (by omega) hf h.1).mono ?_
  rintro e w' ⟨rfl, hf', hg⟩
  rw [hv] at hf' ⊢
  exact ⟨rfl, Lib.hid (wk_only h hbB hb0 hf' hg)⟩
def g0 : Fl := ⟨false, 0, false, false, false, false, 2, -1, true⟩
def g1 : Fl := ⟨false, 0, false, false, false, false, 2, 2, false⟩
def g2 : Fl := ⟨false, 0, false, false, false, false, 0, 0, false⟩
def g3 : Fl := ⟨false, 0, false, true, false, false, 0, 0, false⟩
def g4 : Fl := ⟨false, 0, false, false, false, false, 2, 0, false⟩
def g5 : Fl := ⟨false, 0, false, false, true, false, 2, 0, false⟩
def g6 : Fl := ⟨false, 0, false, false, false, false, 2, 2, true⟩
theorem ex0 : g1.cap 0 = g2 := by rfl
theorem ex1 : act g2 x1 (rule g2 x1) = (g3, 1) := by rfl
theorem ex2 : act g3 xB (rule g3 xB) = (g2, 0) := by rfl
theorem ex3 : g2.cap 2 = g4 := by rfl
theorem ex4 : act g4 x2 (rule g4 x2) = (g5, 1) := by rfl
theorem ex5 : act g5 xS (rule g5 xS) = (g5, 1) := by rfl
theorem ex6 : act g5 xB (rule g5 xB) = (g4, 0) := by rfl
theorem ex7 : act g4 xS (rule g4 xS) = (g1, 0) := by rfl
theorem ex8 : act g1 x1 (rule g1 x1) = (g1, 0) := by rfl
theorem ex9 : g1.lost false 0 false = (g6, true) := by rfl
theorem ex10 : act g6 xB (rule g6 xB) = (g6, 1) := by rfl
theorem ex11 : act g6 xK (rule g6 xK) = (g1, 0) := by rfl

theorem boxes_made {w2 w3 w : World} {b : Nat} {f : Fl} (h : (((((w2.alloc (.cells xB.cells 33)).alloc (.cells xK.cells 33)).alloc (.cells x1.cells 33)).alloc (.cells x2.cells 33)).alloc (.cells xS.cells 33)) = w3) (hf : Fb w2 b f) (hb : Below b w w2) : Wk w w3 b w2.heap.size f [] := by
  subst h
  have e1 : (w2.alloc (.cells xB.cells 33)).heap.size = w2.heap.size + 1 := by simp
  have e2 : ((w2.alloc (.cells xB.cells 33)).alloc (.cells xK.cells 33)).heap.size = w2.heap.size + 2 := by simp
  have e3 : (((w2.alloc (.cells xB.cells 33)).alloc (.cells xK.cells 33)).alloc (.cells x1.cells 33)).heap.size = w2.heap.size + 3 := by simp
  have e4 : ((((w2.alloc (.cells xB.cells 33)).alloc (.cells xK.cells 33)).alloc (.cells x1.cells 33)).alloc (.cells x2.cells 33)).heap.size = w2.heap.size + 4 := by simp
  have hl := hf.lt
  refine ⟨((((hf.alloc _).alloc _).alloc _).alloc _).alloc _, ⟨((((Blk.new w2 33 _).alloc _).alloc _).alloc _).alloc _, ?_, ?_, ?_, ?_⟩, ?_⟩
  · rw [← e1]; exact (((Blk.new _ 33 _).alloc _).alloc _).alloc _
  · rw [← e2]; exact ((Blk.new _ 33 _).alloc _).alloc _
  · rw [← e3]; exact (Blk.new _ 33 _).alloc _
  · rw [← e4]; exact Blk.new _ 33 _
  · exact ⟨((((hb.alloc (by omega) _).alloc (by omega) _).alloc (by omega) _).alloc (by omega) _).alloc (by omega) _, fun p hp => by cases hp⟩

set_option maxHeartbeats 4000000 in
set_option maxRecDepth 100000 in
theorem works_any (w : World) : Calls Try.prog 8 #[] w fun e w' => e = .returned (.bool true) ∧ Below w.heap.size w w' := by
  go_enter Try.func8, Try.ntmps8
  go_wp2_with fail
  refine (new_any w).mono ?_
  rintro e w1 ⟨rfl, hw1⟩
  have hf1 : Fb w1 w.heap.size new := by rw [hw1]; exact Blk.new w 59 _
  have hb1 : Below w.heap.size w w1 := by rw [hw1]; exact (Below.refl _ w).alloc (Nat.le_refl _) _
  have HC := Lib.hid (cap_any w.heap.size new 2 w1 hf1)
  have HB := Lib.hid hb1
  clear hw1 hf1 hb1
  unfold P at HC ⊢
  go_wp2_with fail
  refine HC.out.mono ?_
  rintro e w2 ⟨rfl, hf2, hg2⟩
  have HF2 : Hid (Fb w2 w.heap.size g0) := Lib.hid hf2
  have HB2 := Lib.hid (below_only (Nat.le_refl _) HB.out hg2)
  have hl2 := hf2.lt
  clear HC HB hf2 hg2
  go_wp2_with fail
  obtain ⟨w3, hw3⟩ : ∃ w3, (((((w2.alloc (.cells xB.cells 33)).alloc (.cells xK.cells 33)).alloc (.cells x1.cells 33)).alloc (.cells x2.cells 33)).alloc (.cells xS.cells 33)) = w3 := ⟨_, rfl⟩
  have hW := boxes_made hw3 HF2.out HB2.out
  simp only [Fa.cells, xB, xK, x1, x2, xS] at hw3
  rw [hw3]
  have hbB : w.heap.size < w2.heap.size := hl2
  obtain ⟨B, hB⟩ : ∃ B, w2.heap.size = B := ⟨_, rfl⟩
  rw [hB] at hW hbB ⊢
  clear hB hw3 HF2 HB2 hl2
  have hb0 : w.heap.size ≤ w.heap.size := Nat.le_refl _
  have HW0 := Lib.hid hW
  obtain ⟨⟨s00, s01, s02, s03, s04, s05⟩, ⟨s10, s11, s12, s13, s14, s15⟩, ⟨s20, s21, s22, s23, s24, s25⟩, ⟨s30, s31, s32, s33, s34, s35⟩, ⟨s40, s41, s42, s43, s44, s45⟩⟩ := bx_cells hW.2.1
  clear hW
  go_region_held3 (fun w' => w'.cell? ⟨B, 0, none⟩ = some (.bool false) ∧ w'.cell? ⟨B, 1, none⟩ = some (.int .u8 0) ∧ w'.cell? ⟨B, 2, none⟩ = some (.bool false) ∧ w'.cell? ⟨B, 3, none⟩ = some (.bool false) ∧ w'.cell? ⟨B, 4, none⟩ = some (.bool false) ∧ w'.cell? ⟨B, 5, none⟩ = some (.int .u8 0) ∧ w'.cell? ⟨B + 1, 0, none⟩ = some (.bool true) ∧ w'.cell? ⟨B + 1, 1, none⟩ = some (.int .u8 0) ∧ w'.cell? ⟨B + 1, 2, none⟩ = some (.bool false) ∧ w'.cell? ⟨B + 1, 3, none⟩ = some (.bool false) ∧ w'.cell? ⟨B + 1, 4, none⟩ = some (.bool false) ∧ w'.cell? ⟨B + 1, 5, none⟩ = some (.int .u8 0) ∧ w'.cell? ⟨B + 2, 0, none⟩ = some (.bool false) ∧ w'.cell? ⟨B + 2, 1, none⟩ = some (.int .u8 1) ∧ w'.cell? ⟨B + 2, 2, none⟩ = some (.bool false) ∧ w'.cell? ⟨B + 2, 3, none⟩ = some (.bool false) ∧ w'.cell? ⟨B + 2, 4, none⟩ = some (.bool false) ∧ w'.cell? ⟨B + 2, 5, none⟩ = some (.int .u8 0) ∧ w'.cell? ⟨B + 3, 0, none⟩ = some (.bool false) ∧ w'.cell? ⟨B + 3, 1, none⟩ = some (.int .u8 2) ∧ w'.cell? ⟨B + 3, 2, none⟩ = some (.bool false) ∧ w'.cell? ⟨B + 3, 3, none⟩ = some (.bool false) ∧ w'.cell? ⟨B + 3, 4, none⟩ = some (.bool false) ∧ w'.cell? ⟨B + 3, 5, none⟩ = some (.int .u8 0) ∧ w'.cell? ⟨B + 4, 0, none⟩ = some (.bool false) ∧ w'.cell? ⟨B + 4, 1, none⟩ = some (.int .u8 2) ∧ w'.cell? ⟨B + 4, 2, none⟩ = some (.bool true) ∧ w'.cell? ⟨B + 4, 3, none⟩ = some (.bool false) ∧ w'.cell? ⟨B + 4, 4, none⟩ = some (.bool false) ∧ w'.cell? ⟨B + 4, 5, none⟩ = some (.int .u8 0)) (go_keep) (first
    | (go_at_call 18; have hq := HW0; clear hq; refine (fr_works (f := g0) (x := xB) (f' := g0) (v := 1) rfl ⟨by decide, by decide⟩ ⟨by decide, by decide, by decide⟩ hbB hb0 (by first | exact HW0.out | exact wk_drew HW0.out)).mono ?_; rintro e wa0 ⟨rfl, HW1, hbx1⟩; clear HW0; obtain ⟨⟨taa00, taa01, taa02, taa03, taa04, taa05⟩, ⟨taa10, taa11, taa12, taa13, taa14, taa15⟩, ⟨taa20, taa21, taa22, taa23, taa24, taa25⟩, ⟨taa30, taa31, taa32, taa33, taa34, taa35⟩, ⟨taa40, taa41, taa42, taa43, taa44, taa45⟩⟩ := bx_cells hbx1; clear hbx1)
    | (go_at_call 18; have hq := HW1; clear hq; refine (fr_works (f := g0) (x := xK) (f' := g1) (v := 0) rfl ⟨by decide, by decide⟩ ⟨by decide, by decide, by decide⟩ hbB hb0 (by first | exact HW1.out | exact wk_drew HW1.out)).mono ?_; rintro e wa1 ⟨rfl, HW2, hbx2⟩; clear HW1; obtain ⟨⟨tab00, tab01, tab02, tab03, tab04, tab05⟩, ⟨tab10, tab11, tab12, tab13, tab14, tab15⟩, ⟨tab20, tab21, tab22, tab23, tab24, tab25⟩, ⟨tab30, tab31, tab32, tab33, tab34, tab35⟩, ⟨tab40, tab41, tab42, tab43, tab44, tab45⟩⟩ := bx_cells hbx2; clear hbx2)
    | (go_at_call 18; have hq := HW2; clear hq; refine (fr_works (f := g1) (x := x2) (f' := g1) (v := 0) rfl ⟨by decide, by decide⟩ ⟨by decide, by decide, by decide⟩ hbB hb0 (by first | exact HW2.out | exact wk_drew HW2.out)).mono ?_; rintro e wa2 ⟨rfl, HW3, hbx3⟩; clear HW2; obtain ⟨⟨tac00, tac01, tac02, tac03, tac04, tac05⟩, ⟨tac10, tac11, tac12, tac13, tac14, tac15⟩, ⟨tac20, tac21, tac22, tac23, tac24, tac25⟩, ⟨tac30, tac31, tac32, tac33, tac34, tac35⟩, ⟨tac40, tac41, tac42, tac43, tac44, tac45⟩⟩ := bx_cells hbx3; clear hbx3)
    | (go_at_call 18; have hq := HW3; clear hq; refine (fr_works (f := g1) (x := x1) (f' := g1) (v := 0) rfl ⟨by decide, by decide⟩ ⟨by decide, by decide, by decide⟩ hbB hb0 (by first | exact HW3.out | exact wk_drew HW3.out)).mono ?_; rintro e wa3 ⟨rfl, HW4, hbx4⟩; clear HW3; obtain ⟨⟨tad00, tad01, tad02, tad03, tad04, tad05⟩, ⟨tad10, tad11, tad12, tad13, tad14, tad15⟩, ⟨tad20, tad21, tad22, tad23, tad24, tad25⟩, ⟨tad30, tad31, tad32, tad33, tad34, tad35⟩, ⟨tad40, tad41, tad42, tad43, tad44, tad45⟩⟩ := bx_cells hbx4; clear hbx4)
    | (go_at_call 18; have hq := HW4; clear hq; refine (fr_works (f := g1) (x := xB) (f' := g1) (v := 0) rfl ⟨by decide, by decide⟩ ⟨by decide, by decide, by decide⟩ hbB hb0 (by first | exact HW4.out | exact wk_drew HW4.out)).mono ?_; rintro e wa4 ⟨rfl, HW5, hbx5⟩; clear HW4; obtain ⟨⟨tae00, tae01, tae02, tae03, tae04, tae05⟩, ⟨tae10, tae11, tae12, tae13, tae14, tae15⟩, ⟨tae20, tae21, tae22, tae23, tae24, tae25⟩, ⟨tae30, tae31, tae32, tae33, tae34, tae35⟩, ⟨tae40, tae41, tae42, tae43, tae44, tae45⟩⟩ := bx_cells hbx5; clear hbx5))
  go_wp2_with fail
  obtain ⟨war, hwar⟩ : ∃ u, wa4.alloc (.cells #[.int .i64 1, .int .i64 0, .int .i64 0, .int .i64 0, .int .i64 0] 37) = u := ⟨_, rfl⟩
  have HW6 := Lib.hid (wk_row HW5.out _ hwar)
  obtain ⟨ra, hra⟩ : ∃ r, wa4.heap.size = r := ⟨_, rfl⟩
  rw [hra] at HW6
  rw [hwar, hra]
  clear hwar hra
  refine (cap_works (f := g1) (f' := g2) (n := 0) rfl hbB hb0 HW6.out).mono ?_
  rintro e wq ⟨rfl, HW7⟩
  clear HW6
  obtain ⟨⟨cwq00, cwq01, cwq02, cwq03, cwq04, cwq05⟩, ⟨cwq10, cwq11, cwq12, cwq13, cwq14, cwq15⟩, ⟨cwq20, cwq21, cwq22, cwq23, cwq24, cwq25⟩, ⟨cwq30, cwq31, cwq32, cwq33, cwq34, cwq35⟩, ⟨cwq40, cwq41, cwq42, cwq43, cwq44, cwq45⟩⟩ := bx_cells HW7.out.2.1
  go_wp2_with fail
  go_region_held3 (fun w' => w'.cell? ⟨B, 0, none⟩ = some (.bool false) ∧ w'.cell? ⟨B, 1, none⟩ = some (.int .u8 0) ∧ w'.cell? ⟨B, 2, none⟩ = some (.bool false) ∧ w'.cell? ⟨B, 3, none⟩ = some (.bool false) ∧ w'.cell? ⟨B, 4, none⟩ = some (.bool false) ∧ w'.cell? ⟨B, 5, none⟩ = some (.int .u8 0) ∧ w'.cell? ⟨B + 1, 0, none⟩ = some (.bool true) ∧ w'.cell? ⟨B + 1, 1, none⟩ = some (.int .u8 0) ∧ w'.cell? ⟨B + 1, 2, none⟩ = some (.bool false) ∧ w'.cell? ⟨B + 1, 3, none⟩ = some (.bool false) ∧ w'.cell? ⟨B + 1, 4, none⟩ = some (.bool false) ∧ w'.cell? ⟨B + 1, 5, none⟩ = some (.int .u8 0) ∧ w'.cell? ⟨B + 2, 0, none⟩ = some (.bool false) ∧ w'.cell? ⟨B + 2, 1, none⟩ = some (.int .u8 1) ∧ w'.cell? ⟨B + 2, 2, none⟩ = some (.bool false) ∧ w'.cell? ⟨B + 2, 3, none⟩ = some (.bool false) ∧ w'.cell? ⟨B + 2, 4, none⟩ = some (.bool false) ∧ w'.cell? ⟨B + 2, 5, none⟩ = some (.int .u8 0) ∧ w'.cell? ⟨B + 3, 0, none⟩ = some (.bool false) ∧ w'.cell? ⟨B + 3, 1, none⟩ = some (.int .u8 2) ∧ w'.cell? ⟨B + 3, 2, none⟩ = some (.bool false) ∧ w'.cell? ⟨B + 3, 3, none⟩ = some (.bool false) ∧ w'.cell? ⟨B + 3, 4, none⟩ = some (.bool false) ∧ w'.cell? ⟨B + 3, 5, none⟩ = some (.int .u8 0) ∧ w'.cell? ⟨B + 4, 0, none⟩ = some (.bool false) ∧ w'.cell? ⟨B + 4, 1, none⟩ = some (.int .u8 2) ∧ w'.cell? ⟨B + 4, 2, none⟩ = some (.bool true) ∧ w'.cell? ⟨B + 4, 3, none⟩ = some (.bool false) ∧ w'.cell? ⟨B + 4, 4, none⟩ = some (.bool false) ∧ w'.cell? ⟨B + 4, 5, none⟩ = some (.int .u8 0)) (go_keep) (first
    | (go_at_call 18; have hq := HW7; clear hq; refine (fr_works (f := g2) (x := x1) (f' := g3) (v := 1) rfl ⟨by decide, by decide⟩ ⟨by decide, by decide, by decide⟩ hbB hb0 (by first | exact HW7.out | exact wk_drew HW7.out)).mono ?_; rintro e wb0 ⟨rfl, HW8, hbx8⟩; clear HW7; obtain ⟨⟨tba00, tba01, tba02, tba03, tba04, tba05⟩, ⟨tba10, tba11, tba12, tba13, tba14, tba15⟩, ⟨tba20, tba21, tba22, tba23, tba24, tba25⟩, ⟨tba30, tba31, tba32, tba33, tba34, tba35⟩, ⟨tba40, tba41, tba42, tba43, tba44, tba45⟩⟩ := bx_cells hbx8; clear hbx8)
    | (go_at_call 18; have hq := HW8; clear hq; refine (fr_works (f := g3) (x := xB) (f' := g2) (v := 0) rfl ⟨by decide, by decide⟩ ⟨by decide, by decide, by decide⟩ hbB hb0 (by first | exact HW8.out | exact wk_drew HW8.out)).mono ?_; rintro e wb1 ⟨rfl, HW9, hbx9⟩; clear HW8; obtain ⟨⟨tbb00, tbb01, tbb02, tbb03, tbb04, tbb05⟩, ⟨tbb10, tbb11, tbb12, tbb13, tbb14, tbb15⟩, ⟨tbb20, tbb21, tbb22, tbb23, tbb24, tbb25⟩, ⟨tbb30, tbb31, tbb32, tbb33, tbb34, tbb35⟩, ⟨tbb40, tbb41, tbb42, tbb43, tbb44, tbb45⟩⟩ := bx_cells hbx9; clear hbx9))
  go_wp2_with fail
  obtain ⟨wbr, hwbr⟩ : ∃ u, wb1.alloc (.cells #[.int .i64 1, .int .i64 0] 37) = u := ⟨_, rfl⟩
  have HW10 := Lib.hid (wk_row HW9.out _ hwbr)
  obtain ⟨rb, hrb⟩ : ∃ r, wb1.heap.size = r := ⟨_, rfl⟩
  rw [hrb] at HW10
  rw [hwbr, hrb]
  clear hwbr hrb
  refine (cap_works (f := g2) (f' := g4) (n := 2) rfl hbB hb0 HW10.out).mono ?_
  rintro e wp ⟨rfl, HW11⟩
  clear HW10
  obtain ⟨⟨cwp00, cwp01, cwp02, cwp03, cwp04, cwp05⟩, ⟨cwp10, cwp11, cwp12, cwp13, cwp14, cwp15⟩, ⟨cwp20, cwp21, cwp22, cwp23, cwp24, cwp25⟩, ⟨cwp30, cwp31, cwp32, cwp33, cwp34, cwp35⟩, ⟨cwp40, cwp41, cwp42, cwp43, cwp44, cwp45⟩⟩ := bx_cells HW11.out.2.1
  go_wp2_with fail
  go_region_held3 (fun w' => w'.cell? ⟨B, 0, none⟩ = some (.bool false) ∧ w'.cell? ⟨B, 1, none⟩ = some (.int .u8 0) ∧ w'.cell? ⟨B, 2, none⟩ = some (.bool false) ∧ w'.cell? ⟨B, 3, none⟩ = some (.bool false) ∧ w'.cell? ⟨B, 4, none⟩ = some (.bool false) ∧ w'.cell? ⟨B, 5, none⟩ = some (.int .u8 0) ∧ w'.cell? ⟨B + 1, 0, none⟩ = some (.bool true) ∧ w'.cell? ⟨B + 1, 1, none⟩ = some (.int .u8 0) ∧ w'.cell? ⟨B + 1, 2, none⟩ = some (.bool false) ∧ w'.cell? ⟨B + 1, 3, none⟩ = some (.bool false) ∧ w'.cell? ⟨B + 1, 4, none⟩ = some (.bool false) ∧ w'.cell? ⟨B + 1, 5, none⟩ = some (.int .u8 0) ∧ w'.cell? ⟨B + 2, 0, none⟩ = some (.bool false) ∧ w'.cell? ⟨B + 2, 1, none⟩ = some (.int .u8 1) ∧ w'.cell? ⟨B + 2, 2, none⟩ = some (.bool false) ∧ w'.cell? ⟨B + 2, 3, none⟩ = some (.bool false) ∧ w'.cell? ⟨B + 2, 4, none⟩ = some (.bool false) ∧ w'.cell? ⟨B + 2, 5, none⟩ = some (.int .u8 0) ∧ w'.cell? ⟨B + 3, 0, none⟩ = some (.bool false) ∧ w'.cell? ⟨B + 3, 1, none⟩ = some (.int .u8 2) ∧ w'.cell? ⟨B + 3, 2, none⟩ = some (.bool false) ∧ w'.cell? ⟨B + 3, 3, none⟩ = some (.bool false) ∧ w'.cell? ⟨B + 3, 4, none⟩ = some (.bool false) ∧ w'.cell? ⟨B + 3, 5, none⟩ = some (.int .u8 0) ∧ w'.cell? ⟨B + 4, 0, none⟩ = some (.bool false) ∧ w'.cell? ⟨B + 4, 1, none⟩ = some (.int .u8 2) ∧ w'.cell? ⟨B + 4, 2, none⟩ = some (.bool true) ∧ w'.cell? ⟨B + 4, 3, none⟩ = some (.bool false) ∧ w'.cell? ⟨B + 4, 4, none⟩ = some (.bool false) ∧ w'.cell? ⟨B + 4, 5, none⟩ = some (.int .u8 0)) (go_keep) (first
    | (go_at_call 18; have hq := HW11; clear hq; refine (fr_works (f := g4) (x := x2) (f' := g5) (v := 1) rfl ⟨by decide, by decide⟩ ⟨by decide, by decide, by decide⟩ hbB hb0 (by first | exact HW11.out | exact wk_drew HW11.out)).mono ?_; rintro e wc0 ⟨rfl, HW12, hbx12⟩; clear HW11; obtain ⟨⟨tca00, tca01, tca02, tca03, tca04, tca05⟩, ⟨tca10, tca11, tca12, tca13, tca14, tca15⟩, ⟨tca20, tca21, tca22, tca23, tca24, tca25⟩, ⟨tca30, tca31, tca32, tca33, tca34, tca35⟩, ⟨tca40, tca41, tca42, tca43, tca44, tca45⟩⟩ := bx_cells hbx12; clear hbx12)
    | (go_at_call 18; have hq := HW12; clear hq; refine (fr_works (f := g5) (x := xS) (f' := g5) (v := 1) rfl ⟨by decide, by decide⟩ ⟨by decide, by decide, by decide⟩ hbB hb0 (by first | exact HW12.out | exact wk_drew HW12.out)).mono ?_; rintro e wc1 ⟨rfl, HW13, hbx13⟩; clear HW12; obtain ⟨⟨tcb00, tcb01, tcb02, tcb03, tcb04, tcb05⟩, ⟨tcb10, tcb11, tcb12, tcb13, tcb14, tcb15⟩, ⟨tcb20, tcb21, tcb22, tcb23, tcb24, tcb25⟩, ⟨tcb30, tcb31, tcb32, tcb33, tcb34, tcb35⟩, ⟨tcb40, tcb41, tcb42, tcb43, tcb44, tcb45⟩⟩ := bx_cells hbx13; clear hbx13)
    | (go_at_call 18; have hq := HW13; clear hq; refine (fr_works (f := g5) (x := xB) (f' := g4) (v := 0) rfl ⟨by decide, by decide⟩ ⟨by decide, by decide, by decide⟩ hbB hb0 (by first | exact HW13.out | exact wk_drew HW13.out)).mono ?_; rintro e wc2 ⟨rfl, HW14, hbx14⟩; clear HW13; obtain ⟨⟨tcc00, tcc01, tcc02, tcc03, tcc04, tcc05⟩, ⟨tcc10, tcc11, tcc12, tcc13, tcc14, tcc15⟩, ⟨tcc20, tcc21, tcc22, tcc23, tcc24, tcc25⟩, ⟨tcc30, tcc31, tcc32, tcc33, tcc34, tcc35⟩, ⟨tcc40, tcc41, tcc42, tcc43, tcc44, tcc45⟩⟩ := bx_cells hbx14; clear hbx14)
    | (go_at_call 18; have hq := HW14; clear hq; refine (fr_works (f := g4) (x := xS) (f' := g1) (v := 0) rfl ⟨by decide, by decide⟩ ⟨by decide, by decide, by decide⟩ hbB hb0 (by first | exact HW14.out | exact wk_drew HW14.out)).mono ?_; rintro e wc3 ⟨rfl, HW15, hbx15⟩; clear HW14; obtain ⟨⟨tcd00, tcd01, tcd02, tcd03, tcd04, tcd05⟩, ⟨tcd10, tcd11, tcd12, tcd13, tcd14, tcd15⟩, ⟨tcd20, tcd21, tcd22, tcd23, tcd24, tcd25⟩, ⟨tcd30, tcd31, tcd32, tcd33, tcd34, tcd35⟩, ⟨tcd40, tcd41, tcd42, tcd43, tcd44, tcd45⟩⟩ := bx_cells hbx15; clear hbx15)
    | (go_at_call 18; have hq := HW15; clear hq; refine (fr_works (f := g1) (x := x1) (f' := g1) (v := 0) rfl ⟨by decide, by decide⟩ ⟨by decide, by decide, by decide⟩ hbB hb0 (by first | exact HW15.out | exact wk_drew HW15.out)).mono ?_; rintro e wc4 ⟨rfl, HW16, hbx16⟩; clear HW15; obtain ⟨⟨tce00, tce01, tce02, tce03, tce04, tce05⟩, ⟨tce10, tce11, tce12, tce13, tce14, tce15⟩, ⟨tce20, tce21, tce22, tce23, tce24, tce25⟩, ⟨tce30, tce31, tce32, tce33, tce34, tce35⟩, ⟨tce40, tce41, tce42, tce43, tce44, tce45⟩⟩ := bx_cells hbx16; clear hbx16))
  go_wp2_with fail
  obtain ⟨wcr, hwcr⟩ : ∃ u, wc4.alloc (.cells #[.int .i64 1, .int .i64 1, .int .i64 0, .int .i64 0, .int .i64 0] 37) = u := ⟨_, rfl⟩
  have HW17 := Lib.hid (wk_row HW16.out _ hwcr)
  obtain ⟨rc, hrc⟩ : ∃ r, wc4.heap.size = r := ⟨_, rfl⟩
  rw [hrc] at HW17
  rw [hwcr, hrc]
  clear hwcr hrc
  refine (lost_works (f := g1) (f' := g6) (v := true) rfl ⟨by decide, by decide, by decide⟩ hbB hb0 HW17.out).mono ?_
  rintro e wl ⟨rfl, HW18⟩
  clear HW17
  obtain ⟨⟨cl00, cl01, cl02, cl03, cl04, cl05⟩, ⟨cl10, cl11, cl12, cl13, cl14, cl15⟩, ⟨cl20, cl21, cl22, cl23, cl24, cl25⟩, ⟨cl30, cl31, cl32, cl33, cl34, cl35⟩, ⟨cl40, cl41, cl42, cl43, cl44, cl45⟩⟩ := bx_cells HW18.out.2.1
  go_wp2_with fail
  go_region_held3 (fun w' => w'.cell? ⟨B, 0, none⟩ = some (.bool false) ∧ w'.cell? ⟨B, 1, none⟩ = some (.int .u8 0) ∧ w'.cell? ⟨B, 2, none⟩ = some (.bool false) ∧ w'.cell? ⟨B, 3, none⟩ = some (.bool false) ∧ w'.cell? ⟨B, 4, none⟩ = some (.bool false) ∧ w'.cell? ⟨B, 5, none⟩ = some (.int .u8 0) ∧ w'.cell? ⟨B + 1, 0, none⟩ = some (.bool true) ∧ w'.cell? ⟨B + 1, 1, none⟩ = some (.int .u8 0) ∧ w'.cell? ⟨B + 1, 2, none⟩ = some (.bool false) ∧ w'.cell? ⟨B + 1, 3, none⟩ = some (.bool false) ∧ w'.cell? ⟨B + 1, 4, none⟩ = some (.bool false) ∧ w'.cell? ⟨B + 1, 5, none⟩ = some (.int .u8 0) ∧ w'.cell? ⟨B + 2, 0, none⟩ = some (.bool false) ∧ w'.cell? ⟨B + 2, 1, none⟩ = some (.int .u8 1) ∧ w'.cell? ⟨B + 2, 2, none⟩ = some (.bool false) ∧ w'.cell? ⟨B + 2, 3, none⟩ = some (.bool false) ∧ w'.cell? ⟨B + 2, 4, none⟩ = some (.bool false) ∧ w'.cell? ⟨B + 2, 5, none⟩ = some (.int .u8 0) ∧ w'.cell? ⟨B + 3, 0, none⟩ = some (.bool false) ∧ w'.cell? ⟨B + 3, 1, none⟩ = some (.int .u8 2) ∧ w'.cell? ⟨B + 3, 2, none⟩ = some (.bool false) ∧ w'.cell? ⟨B + 3, 3, none⟩ = some (.bool false) ∧ w'.cell? ⟨B + 3, 4, none⟩ = some (.bool false) ∧ w'.cell? ⟨B + 3, 5, none⟩ = some (.int .u8 0) ∧ w'.cell? ⟨B + 4, 0, none⟩ = some (.bool false) ∧ w'.cell? ⟨B + 4, 1, none⟩ = some (.int .u8 2) ∧ w'.cell? ⟨B + 4, 2, none⟩ = some (.bool true) ∧ w'.cell? ⟨B + 4, 3, none⟩ = some (.bool false) ∧ w'.cell? ⟨B + 4, 4, none⟩ = some (.bool false) ∧ w'.cell? ⟨B + 4, 5, none⟩ = some (.int .u8 0)) (go_keep) (first
    | (go_at_call 18; have hq := HW18; clear hq; refine (fr_works (f := g6) (x := xB) (f' := g6) (v := 1) rfl ⟨by decide, by decide⟩ ⟨by decide, by decide, by decide⟩ hbB hb0 (by first | exact HW18.out | exact wk_drew HW18.out)).mono ?_; rintro e wd0 ⟨rfl, HW19, hbx19⟩; clear HW18; obtain ⟨⟨tda00, tda01, tda02, tda03, tda04, tda05⟩, ⟨tda10, tda11, tda12, tda13, tda14, tda15⟩, ⟨tda20, tda21, tda22, tda23, tda24, tda25⟩, ⟨tda30, tda31, tda32, tda33, tda34, tda35⟩, ⟨tda40, tda41, tda42, tda43, tda44, tda45⟩⟩ := bx_cells hbx19; clear hbx19)
    | (go_at_call 18; have hq := HW19; clear hq; refine (fr_works (f := g6) (x := xK) (f' := g1) (v := 0) rfl ⟨by decide, by decide⟩ ⟨by decide, by decide, by decide⟩ hbB hb0 (by first | exact HW19.out | exact wk_drew HW19.out)).mono ?_; rintro e wd1 ⟨rfl, HW20, hbx20⟩; clear HW19; obtain ⟨⟨tdb00, tdb01, tdb02, tdb03, tdb04, tdb05⟩, ⟨tdb10, tdb11, tdb12, tdb13, tdb14, tdb15⟩, ⟨tdb20, tdb21, tdb22, tdb23, tdb24, tdb25⟩, ⟨tdb30, tdb31, tdb32, tdb33, tdb34, tdb35⟩, ⟨tdb40, tdb41, tdb42, tdb43, tdb44, tdb45⟩⟩ := bx_cells hbx20; clear hbx20))
  go_wp2_with fail
  obtain ⟨wdr, hwdr⟩ : ∃ u, wd1.alloc (.cells #[.int .i64 1, .int .i64 0] 37) = u := ⟨_, rfl⟩
  have HW21 := Lib.hid (wk_row HW20.out _ hwdr)
  obtain ⟨rd, hrd⟩ : ∃ r, wd1.heap.size = r := ⟨_, rfl⟩
  rw [hrd] at HW21
  rw [hwdr, hrd]
  clear hwdr hrd
  go_loopw [12] (fun v wr => ∃ q : Nat, v = .int .i64 q ∧ q ≤ 5 ∧ Wk w wr w.heap.size B g1 [(rd, #[.int .i64 1, .int .i64 0]), (rc, #[.int .i64 1, .int .i64 1, .int .i64 0, .int .i64 0, .int .i64 0]), (rb, #[.int .i64 1, .int .i64 0]), (ra, #[.int .i64 1, .int .i64 0, .int .i64 0, .int .i64 0, .int .i64 0])]) (fun v _ => 5 - (intOf v).toNat)
  case atStart => exact ⟨0, rfl, by omega, HW21.out⟩
  case round =>
    obtain ⟨q, rfl, hq, hw⟩ := hrel
    have hA := (hw.2.2.2 _ (.tail _ (.tail _ (.tail _ (.head _))))).1
    have hC := (hw.2.2.2 _ (.tail _ (.head _))).1
    have hE := (hw.2.2.2 _ (.head _)).1
    have hD := (hw.2.2.2 _ (.tail _ (.tail _ (.head _)))).1
    have a0 : wr.cell? ⟨ra, 0, none⟩ = some (.int .i64 1) := hA.cell 0
    have a1 : wr.cell? ⟨ra, 1, none⟩ = some (.int .i64 0) := hA.cell 1
    have a2 : wr.cell? ⟨ra, 2, none⟩ = some (.int .i64 0) := hA.cell 2
    have a3 : wr.cell? ⟨ra, 3, none⟩ = some (.int .i64 0) := hA.cell 3
    have a4 : wr.cell? ⟨ra, 4, none⟩ = some (.int .i64 0) := hA.cell 4
    have e0 : wr.cell? ⟨rc, 0, none⟩ = some (.int .i64 1) := hC.cell 0
    have e1 : wr.cell? ⟨rc, 1, none⟩ = some (.int .i64 1) := hC.cell 1
    have e2 : wr.cell? ⟨rc, 2, none⟩ = some (.int .i64 0) := hC.cell 2
    have e3 : wr.cell? ⟨rc, 3, none⟩ = some (.int .i64 0) := hC.cell 3
    have e4 : wr.cell? ⟨rc, 4, none⟩ = some (.int .i64 0) := hC.cell 4
    have b0 : wr.cell? ⟨rb, 0, none⟩ = some (.int .i64 1) := hD.cell 0
    have b1 : wr.cell? ⟨rb, 1, none⟩ = some (.int .i64 0) := hD.cell 1
    have d0 : wr.cell? ⟨rd, 0, none⟩ = some (.int .i64 1) := hE.cell 0
    have d1 : wr.cell? ⟨rd, 1, none⟩ = some (.int .i64 0) := hE.cell 1
    have lA := hA.lt
    have lC := hC.lt
    have HWr := Lib.hid hw
    clear hw hA hC hD hE HW21
    rcases (show q = 0 ∨ q = 1 ∨ q = 2 ∨ q = 3 ∨ q = 4 ∨ q = 5 by omega) with rfl | rfl | rfl | rfl | rfl | rfl
    · clear a1 a2 a3 a4 e1 e2 e3 e4 b0 b1 d0 d1
      go_wp2_with fail
      go_region
      go_wp2_with fail
      go_roundw
      case rel => first
        | exact ⟨1, rfl, by omega, wk_drew (wk_alloc (wk_alloc HWr.out _) _)⟩
        | exact ⟨1, rfl, by omega, wk_alloc (wk_alloc (wk_drew HWr.out) _) _⟩
        | ((repeat apply Exists.intro); exact ⟨⟨1, rfl, by omega, wk_drew (wk_alloc (wk_alloc HWr.out _) _)⟩, rfl⟩)
      case measure => simp [intOf]
    · clear a0 a2 a3 a4 e0 e2 e3 e4 b0 b1 d0 d1
      go_wp2_with fail
      go_region
      go_wp2_with fail
      go_roundw
      case rel => first
        | exact ⟨2, rfl, by omega, wk_drew (wk_alloc (wk_alloc HWr.out _) _)⟩
        | exact ⟨2, rfl, by omega, wk_alloc (wk_alloc (wk_drew HWr.out) _) _⟩
        | ((repeat apply Exists.intro); exact ⟨⟨2, rfl, by omega, wk_drew (wk_alloc (wk_alloc HWr.out _) _)⟩, rfl⟩)
      case measure => simp [intOf]
    · clear a0 a1 a3 a4 e0 e1 e3 e4 b0 b1 d0 d1
      go_wp2_with fail
      go_region
      go_wp2_with fail
      go_roundw
      case rel => first
        | exact ⟨3, rfl, by omega, wk_drew (wk_alloc (wk_alloc HWr.out _) _)⟩
        | exact ⟨3, rfl, by omega, wk_alloc (wk_alloc (wk_drew HWr.out) _) _⟩
        | ((repeat apply Exists.intro); exact ⟨⟨3, rfl, by omega, wk_drew (wk_alloc (wk_alloc HWr.out _) _)⟩, rfl⟩)
      case measure => simp [intOf]
    · clear a0 a1 a2 a4 e0 e1 e2 e4 b0 b1 d0 d1
      go_wp2_with fail
      go_region
      go_wp2_with fail
      go_roundw
      case rel => first
        | exact ⟨4, rfl, by omega, wk_drew (wk_alloc (wk_alloc HWr.out _) _)⟩
        | exact ⟨4, rfl, by omega, wk_alloc (wk_alloc (wk_drew HWr.out) _) _⟩
        | ((repeat apply Exists.intro); exact ⟨⟨4, rfl, by omega, wk_drew (wk_alloc (wk_alloc HWr.out _) _)⟩, rfl⟩)
      case measure => simp [intOf]
    · clear a0 a1 a2 a3 e0 e1 e2 e3 b0 b1 d0 d1
      go_wp2_with fail
      go_region
      go_wp2_with fail
      go_roundw
      case rel => first
        | exact ⟨5, rfl, by omega, wk_drew (wk_alloc (wk_alloc HWr.out _) _)⟩
        | exact ⟨5, rfl, by omega, wk_alloc (wk_alloc (wk_drew HWr.out) _) _⟩
        | ((repeat apply Exists.intro); exact ⟨⟨5, rfl, by omega, wk_drew (wk_alloc (wk_alloc HWr.out _) _)⟩, rfl⟩)
      case measure => simp [intOf]
    · clear a0 a1 a2 a3 a4 e0 e1 e2 e3 e4
      go_wp2_with fail
      go_ret
      exact ⟨rfl, HWr.out.2.2.1⟩
end Go.Proofs.Ytnodnngakopooaa
