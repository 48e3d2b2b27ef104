/- Whatever comes, its fate is the document's: the walk of the law LayerPlays. Conditions: none but that each argument is of its kind. -/
import Derived.Test.YtnodnngakopooaaPDoes
namespace Go.Proofs.Ytnodnngakopooaa
open Go.RowKit

theorem does_any (b : Nat) (f : Fl) (a : Ac) (w : World) (h : Fb w b f) (hf : f.ok) (ha : a.ok) : Calls Try.prog 25 #[P b, .agg f.rc, .agg a.arr] w fun e w' => e = .returned (.tuple #[.agg (f.step a).rc, .bool true]) ∧ Fb w' b (f.step a) ∧ w.grownBy w' (some b) := by
  unfold Fl.step
  by_cases h5 : pick a.act 8 = 5
  · rw [if_pos h5]; exact does5 b f a w h hf ha h5
  · rw [if_neg h5]
    by_cases h6 : pick a.act 8 = 6
    · rw [if_pos h6]; exact does6 b f a w h hf h6
    · rw [if_neg h6]
      by_cases h7 : pick a.act 8 = 7
      · rw [if_pos h7]; exact does7 b f a w h h7
      · rw [if_neg h7]; exact does8 b f a w _ h hf ha rfl h5 h6 h7
theorem step_ok (f : Fl) (a : Ac) (hf : f.ok) (ha : a.ok) : (f.step a).ok := by
  unfold Fl.step
  by_cases h5 : pick a.act 8 = 5
  · rw [if_pos h5]; exact (lost_law f a.known a.x.tid a.x.drop hf).1
  · rw [if_neg h5]
    by_cases h6 : pick a.act 8 = 6
    · rw [if_pos h6]; exact (cap_law f a.cap hf).1
    · rw [if_neg h6]
      by_cases h7 : pick a.act 8 = 7
      · rw [if_pos h7]; exact halt_law f hf
      · rw [if_neg h7]; exact (frame_law f a.x hf ha.1).1
/-- What is kept within a round: the filter, its copy, the reference's boxes. -/
def Pk (w0 w : World) (B C : Nat) (f c r s : Fl) : Prop := Fb w w0.heap.size f ∧ Fb w C c ∧ Blk w B 46 r.rc ∧ Blk w (C + 1) 46 s.rc ∧ Below w0.heap.size w0 w ∧ w0.heap.size < B ∧ B < C ∧ C + 1 < w.heap.size
section
variable {w0 w w' : World} {B C : Nat} {f c r s n : Fl}
theorem pk_below (h : Pk w0 w B C f c r s) (hb : Below w.heap.size w w') : Pk w0 w' B C f c r s := by
  obtain ⟨h1, h2, h3, h4, h5, h6, h7, h8⟩ := h
  exact ⟨h1.below hb h1.lt, h2.below hb h2.lt, h3.below hb h3.lt, h4.below hb h4.lt, h5.trans (hb.mono h5.size), h6, h7, Nat.lt_of_lt_of_le h8 hb.size⟩
theorem pk_drew (h : Pk w0 w B C f c r s) : Pk w0 w.drew B C f c r s := by
  obtain ⟨h1, h2, h3, h4, h5, h6, h7, h8⟩ := h
  exact ⟨h1.drew, h2.drew, h3.drew, h4.drew, h5.drew, h6, h7, h8⟩
theorem pk_alloc (h : Pk w0 w B C f c r s) (o : Obj) : Pk w0 (w.alloc o) B C f c r s := pk_below h ((Below.refl _ w).alloc (Nat.le_refl _) o)
theorem pk_own (h : Pk w0 w B C f c r s) (hf : Fb w' w0.heap.size n) (hg : w.grownBy w' (some w0.heap.size)) : Pk w0 w' B C n c r s := by
  obtain ⟨h1, h2, h3, h4, h5, h6, h7, h8⟩ := h
  exact ⟨hf, h2.grown hg (by intro e; have := Option.some.inj e; omega), h3.grown hg (by intro e; have := Option.some.inj e; omega), h4.grown hg (by intro e; have := Option.some.inj e; omega), below_only (Nat.le_refl _) h5 hg, h6, h7, Nat.lt_of_lt_of_le h8 hg.size⟩
theorem pk_copy (h : Pk w0 w B C f c r s) (hf : Fb w' C n) (hg : w.grownBy w' (some C)) : Pk w0 w' B C f n r s := by
  obtain ⟨h1, h2, h3, h4, h5, h6, h7, h8⟩ := h
  exact ⟨h1.grown hg (by intro e; have := Option.some.inj e; omega), hf, h3.grown hg (by intro e; have := Option.some.inj e; omega), h4.grown hg (by intro e; have := Option.some.inj e; omega), h5.grown hg (by have := h5.size; omega) (fun j e => by cases e; omega), h6, h7, Nat.lt_of_lt_of_le h8 hg.size⟩
theorem pk_put (h : Pk w0 w B C f c r s) : Pk w0 ((((((((w.setCell ⟨B, 0, none⟩ (.int .i64 n.asked)).setCell ⟨B, 1, none⟩ (.int .i64 n.now)).setCell ⟨B, 2, none⟩ (.bool n.stopped)).setCell ⟨B, 3, none⟩ (.bool n.told)).setCell ⟨B, 4, none⟩ (.int .u8 n.num)).setCell ⟨B, 5, none⟩ (.bool n.m1)).setCell ⟨B, 6, none⟩ (.bool n.m2)).setCell ⟨B, 7, none⟩ (.bool n.m3)) B C f c n s := by
  obtain ⟨h1, h2, h3, h4, h5, h6, h7, h8⟩ := h
  refine ⟨far8 h1 (by omega) (.int .i64 n.asked) (.int .i64 n.now) (.bool n.stopped) (.bool n.told) (.int .u8 n.num) (.bool n.m1) (.bool n.m2) (.bool n.m3), far8 h2 (by omega) (.int .i64 n.asked) (.int .i64 n.now) (.bool n.stopped) (.bool n.told) (.int .u8 n.num) (.bool n.m1) (.bool n.m2) (.bool n.m3), put8 h3 (.int .i64 n.asked) (.int .i64 n.now) (.bool n.stopped) (.bool n.told) (.int .u8 n.num) (.bool n.m1) (.bool n.m2) (.bool n.m3), far8 h4 (by omega) (.int .i64 n.asked) (.int .i64 n.now) (.bool n.stopped) (.bool n.told) (.int .u8 n.num) (.bool n.m1) (.bool n.m2) (.bool n.m3), ?_, h6, h7, by simpa [World.setCell] using h8⟩
  have e0 : Below w0.heap.size w0 (w.setCell ⟨B, 0, none⟩ (.int .i64 n.asked)) := Below.setCell (p := ⟨B, 0, none⟩) h5 (Nat.le_of_lt h6) _
  have e1 : Below w0.heap.size w0 ((w.setCell ⟨B, 0, none⟩ (.int .i64 n.asked)).setCell ⟨B, 1, none⟩ (.int .i64 n.now)) := Below.setCell (p := ⟨B, 1, none⟩) e0 (Nat.le_of_lt h6) _
  have e2 : Below w0.heap.size w0 (((w.setCell ⟨B, 0, none⟩ (.int .i64 n.asked)).setCell ⟨B, 1, none⟩ (.int .i64 n.now)).setCell ⟨B, 2, none⟩ (.bool n.stopped)) := Below.setCell (p := ⟨B, 2, none⟩) e1 (Nat.le_of_lt h6) _
  have e3 : Below w0.heap.size w0 ((((w.setCell ⟨B, 0, none⟩ (.int .i64 n.asked)).setCell ⟨B, 1, none⟩ (.int .i64 n.now)).setCell ⟨B, 2, none⟩ (.bool n.stopped)).setCell ⟨B, 3, none⟩ (.bool n.told)) := Below.setCell (p := ⟨B, 3, none⟩) e2 (Nat.le_of_lt h6) _
  have e4 : Below w0.heap.size w0 (((((w.setCell ⟨B, 0, none⟩ (.int .i64 n.asked)).setCell ⟨B, 1, none⟩ (.int .i64 n.now)).setCell ⟨B, 2, none⟩ (.bool n.stopped)).setCell ⟨B, 3, none⟩ (.bool n.told)).setCell ⟨B, 4, none⟩ (.int .u8 n.num)) := Below.setCell (p := ⟨B, 4, none⟩) e3 (Nat.le_of_lt h6) _
  have e5 : Below w0.heap.size w0 ((((((w.setCell ⟨B, 0, none⟩ (.int .i64 n.asked)).setCell ⟨B, 1, none⟩ (.int .i64 n.now)).setCell ⟨B, 2, none⟩ (.bool n.stopped)).setCell ⟨B, 3, none⟩ (.bool n.told)).setCell ⟨B, 4, none⟩ (.int .u8 n.num)).setCell ⟨B, 5, none⟩ (.bool n.m1)) := Below.setCell (p := ⟨B, 5, none⟩) e4 (Nat.le_of_lt h6) _
  have e6 : Below w0.heap.size w0 (((((((w.setCell ⟨B, 0, none⟩ (.int .i64 n.asked)).setCell ⟨B, 1, none⟩ (.int .i64 n.now)).setCell ⟨B, 2, none⟩ (.bool n.stopped)).setCell ⟨B, 3, none⟩ (.bool n.told)).setCell ⟨B, 4, none⟩ (.int .u8 n.num)).setCell ⟨B, 5, none⟩ (.bool n.m1)).setCell ⟨B, 6, none⟩ (.bool n.m2)) := Below.setCell (p := ⟨B, 6, none⟩) e5 (Nat.le_of_lt h6) _
  have e7 : Below w0.heap.size w0 ((((((((w.setCell ⟨B, 0, none⟩ (.int .i64 n.asked)).setCell ⟨B, 1, none⟩ (.int .i64 n.now)).setCell ⟨B, 2, none⟩ (.bool n.stopped)).setCell ⟨B, 3, none⟩ (.bool n.told)).setCell ⟨B, 4, none⟩ (.int .u8 n.num)).setCell ⟨B, 5, none⟩ (.bool n.m1)).setCell ⟨B, 6, none⟩ (.bool n.m2)).setCell ⟨B, 7, none⟩ (.bool n.m3)) := Below.setCell (p := ⟨B, 7, none⟩) e6 (Nat.le_of_lt h6) _
  exact e7
theorem pk_far (h : Pk w0 w B C f c r s) {g : Nat} (hg : C + 1 < g) (y0 y1 y2 y3 y4 y5 y6 y7 : Value) : Pk w0 ((((((((w.setCell ⟨g, 0, none⟩ y0).setCell ⟨g, 1, none⟩ y1).setCell ⟨g, 2, none⟩ y2).setCell ⟨g, 3, none⟩ y3).setCell ⟨g, 4, none⟩ y4).setCell ⟨g, 5, none⟩ y5).setCell ⟨g, 6, none⟩ y6).setCell ⟨g, 7, none⟩ y7) B C f c r s := by
  obtain ⟨h1, h2, h3, h4, h5, h6, h7, h8⟩ := h
  refine ⟨far8 h1 (by omega) y0 y1 y2 y3 y4 y5 y6 y7, far8 h2 (by omega) y0 y1 y2 y3 y4 y5 y6 y7, far8 h3 (by omega) y0 y1 y2 y3 y4 y5 y6 y7, far8 h4 (by omega) y0 y1 y2 y3 y4 y5 y6 y7, ?_, h6, h7, by simpa [World.setCell] using h8⟩
  have e0 : Below w0.heap.size w0 (w.setCell ⟨g, 0, none⟩ y0) := Below.setCell (p := ⟨g, 0, none⟩) h5 (show w0.heap.size ≤ g by omega) _
  have e1 : Below w0.heap.size w0 ((w.setCell ⟨g, 0, none⟩ y0).setCell ⟨g, 1, none⟩ y1) := Below.setCell (p := ⟨g, 1, none⟩) e0 (show w0.heap.size ≤ g by omega) _
  have e2 : Below w0.heap.size w0 (((w.setCell ⟨g, 0, none⟩ y0).setCell ⟨g, 1, none⟩ y1).setCell ⟨g, 2, none⟩ y2) := Below.setCell (p := ⟨g, 2, none⟩) e1 (show w0.heap.size ≤ g by omega) _
  have e3 : Below w0.heap.size w0 ((((w.setCell ⟨g, 0, none⟩ y0).setCell ⟨g, 1, none⟩ y1).setCell ⟨g, 2, none⟩ y2).setCell ⟨g, 3, none⟩ y3) := Below.setCell (p := ⟨g, 3, none⟩) e2 (show w0.heap.size ≤ g by omega) _
  have e4 : Below w0.heap.size w0 (((((w.setCell ⟨g, 0, none⟩ y0).setCell ⟨g, 1, none⟩ y1).setCell ⟨g, 2, none⟩ y2).setCell ⟨g, 3, none⟩ y3).setCell ⟨g, 4, none⟩ y4) := Below.setCell (p := ⟨g, 4, none⟩) e3 (show w0.heap.size ≤ g by omega) _
  have e5 : Below w0.heap.size w0 ((((((w.setCell ⟨g, 0, none⟩ y0).setCell ⟨g, 1, none⟩ y1).setCell ⟨g, 2, none⟩ y2).setCell ⟨g, 3, none⟩ y3).setCell ⟨g, 4, none⟩ y4).setCell ⟨g, 5, none⟩ y5) := Below.setCell (p := ⟨g, 5, none⟩) e4 (show w0.heap.size ≤ g by omega) _
  have e6 : Below w0.heap.size w0 (((((((w.setCell ⟨g, 0, none⟩ y0).setCell ⟨g, 1, none⟩ y1).setCell ⟨g, 2, none⟩ y2).setCell ⟨g, 3, none⟩ y3).setCell ⟨g, 4, none⟩ y4).setCell ⟨g, 5, none⟩ y5).setCell ⟨g, 6, none⟩ y6) := Below.setCell (p := ⟨g, 6, none⟩) e5 (show w0.heap.size ≤ g by omega) _
  have e7 : Below w0.heap.size w0 ((((((((w.setCell ⟨g, 0, none⟩ y0).setCell ⟨g, 1, none⟩ y1).setCell ⟨g, 2, none⟩ y2).setCell ⟨g, 3, none⟩ y3).setCell ⟨g, 4, none⟩ y4).setCell ⟨g, 5, none⟩ y5).setCell ⟨g, 6, none⟩ y6).setCell ⟨g, 7, none⟩ y7) := Below.setCell (p := ⟨g, 7, none⟩) e6 (show w0.heap.size ≤ g by omega) _
  exact e7
theorem pk_cells (h : Pk w0 w B C f c r s) : (w.cell? ⟨B, 0, none⟩ = some (.int .i64 r.asked) ∧ w.cell? ⟨B, 1, none⟩ = some (.int .i64 r.now) ∧ w.cell? ⟨B, 2, none⟩ = some (.bool r.stopped) ∧ w.cell? ⟨B, 3, none⟩ = some (.bool r.told) ∧ w.cell? ⟨B, 4, none⟩ = some (.int .u8 r.num) ∧ w.cell? ⟨B, 5, none⟩ = some (.bool r.m1) ∧ w.cell? ⟨B, 6, none⟩ = some (.bool r.m2) ∧ w.cell? ⟨B, 7, none⟩ = some (.bool r.m3)) ∧ (w.frozen? ⟨B, 0, none⟩ = false ∧ w.frozen? ⟨B, 1, none⟩ = false ∧ w.frozen? ⟨B, 2, none⟩ = false ∧ w.frozen? ⟨B, 3, none⟩ = false ∧ w.frozen? ⟨B, 4, none⟩ = false ∧ w.frozen? ⟨B, 5, none⟩ = false ∧ w.frozen? ⟨B, 6, none⟩ = false ∧ w.frozen? ⟨B, 7, none⟩ = false) ∧ (w.cell? ⟨C + 1, 0, none⟩ = some (.int .i64 s.asked) ∧ w.cell? ⟨C + 1, 1, none⟩ = some (.int .i64 s.now) ∧ w.cell? ⟨C + 1, 2, none⟩ = some (.bool s.stopped) ∧ w.cell? ⟨C + 1, 3, none⟩ = some (.bool s.told) ∧ w.cell? ⟨C + 1, 4, none⟩ = some (.int .u8 s.num) ∧ w.cell? ⟨C + 1, 5, none⟩ = some (.bool s.m1) ∧ w.cell? ⟨C + 1, 6, none⟩ = some (.bool s.m2) ∧ w.cell? ⟨C + 1, 7, none⟩ = some (.bool s.m3)) ∧ C + 1 < w.heap.size :=
  ⟨rc_cells h.2.2.1, ⟨h.2.2.1.frozen 0, h.2.2.1.frozen 1, h.2.2.1.frozen 2, h.2.2.1.frozen 3, h.2.2.1.frozen 4, h.2.2.1.frozen 5, h.2.2.1.frozen 6, h.2.2.1.frozen 7⟩, rc_cells h.2.2.2.1, h.2.2.2.2.2.2.2⟩
theorem pk_start (h : Fb w w0.heap.size f) (hr : Blk w B 46 f.rc) (hb : Below w0.heap.size w0 w) (hB : w0.heap.size < B) : Pk w0 ((w.alloc (.cells f.cells 59)).alloc (.cells f.rc 46)) B w.heap.size f f f f := by
  have h2 := Blk.new (w.alloc (.cells f.cells 59)) 46 f.rc
  rw [World.size_alloc] at h2
  exact ⟨(h.alloc _).alloc _, (Blk.new w 59 f.cells).alloc _, (hr.alloc _).alloc _, h2, (hb.alloc hb.size _).alloc (by simp; have := hb.size; omega) _, hB, hr.lt, by simp⟩
end
theorem keepS {w : World} {g : Nat} (y0 y1 y2 y3 y4 y5 y6 y7 : Value) {p : Addr} {v : Value} (h : w.cell? p = some v) (hne : ¬ p.block = g) : ((((((((w.setCell ⟨g, 0, none⟩ y0).setCell ⟨g, 1, none⟩ y1).setCell ⟨g, 2, none⟩ y2).setCell ⟨g, 3, none⟩ y3).setCell ⟨g, 4, none⟩ y4).setCell ⟨g, 5, none⟩ y5).setCell ⟨g, 6, none⟩ y6).setCell ⟨g, 7, none⟩ y7).cell? p = some v := by
  have h0 : (w.setCell ⟨g, 0, none⟩ y0).cell? p = some v := (World.cell?_setCell_far _ ⟨g, 0, none⟩ p _ (fun e => hne e.symm)).trans h
  have h1 : ((w.setCell ⟨g, 0, none⟩ y0).setCell ⟨g, 1, none⟩ y1).cell? p = some v := (World.cell?_setCell_far _ ⟨g, 1, none⟩ p _ (fun e => hne e.symm)).trans h0
  have h2 : (((w.setCell ⟨g, 0, none⟩ y0).setCell ⟨g, 1, none⟩ y1).setCell ⟨g, 2, none⟩ y2).cell? p = some v := (World.cell?_setCell_far _ ⟨g, 2, none⟩ p _ (fun e => hne e.symm)).trans h1
  have h3 : ((((w.setCell ⟨g, 0, none⟩ y0).setCell ⟨g, 1, none⟩ y1).setCell ⟨g, 2, none⟩ y2).setCell ⟨g, 3, none⟩ y3).cell? p = some v := (World.cell?_setCell_far _ ⟨g, 3, none⟩ p _ (fun e => hne e.symm)).trans h2
  have h4 : (((((w.setCell ⟨g, 0, none⟩ y0).setCell ⟨g, 1, none⟩ y1).setCell ⟨g, 2, none⟩ y2).setCell ⟨g, 3, none⟩ y3).setCell ⟨g, 4, none⟩ y4).cell? p = some v := (World.cell?_setCell_far _ ⟨g, 4, none⟩ p _ (fun e => hne e.symm)).trans h3
  have h5 : ((((((w.setCell ⟨g, 0, none⟩ y0).setCell ⟨g, 1, none⟩ y1).setCell ⟨g, 2, none⟩ y2).setCell ⟨g, 3, none⟩ y3).setCell ⟨g, 4, none⟩ y4).setCell ⟨g, 5, none⟩ y5).cell? p = some v := (World.cell?_setCell_far _ ⟨g, 5, none⟩ p _ (fun e => hne e.symm)).trans h4
  have h6 : (((((((w.setCell ⟨g, 0, none⟩ y0).setCell ⟨g, 1, none⟩ y1).setCell ⟨g, 2, none⟩ y2).setCell ⟨g, 3, none⟩ y3).setCell ⟨g, 4, none⟩ y4).setCell ⟨g, 5, none⟩ y5).setCell ⟨g, 6, none⟩ y6).cell? p = some v := (World.cell?_setCell_far _ ⟨g, 6, none⟩ p _ (fun e => hne e.symm)).trans h5
  have h7 : ((((((((w.setCell ⟨g, 0, none⟩ y0).setCell ⟨g, 1, none⟩ y1).setCell ⟨g, 2, none⟩ y2).setCell ⟨g, 3, none⟩ y3).setCell ⟨g, 4, none⟩ y4).setCell ⟨g, 5, none⟩ y5).setCell ⟨g, 6, none⟩ y6).setCell ⟨g, 7, none⟩ y7).cell? p = some v := (World.cell?_setCell_far _ ⟨g, 7, none⟩ p _ (fun e => hne e.symm)).trans h6
  exact h7
theorem zb_only {w w' : World} {g b : Nat} (h : Zb w g) (hg : w.grownBy w' (some b)) (hne : g ≠ b) : Zb w' g := Blk.grown h hg (by intro e; exact hne (Option.some.inj e))
theorem keep17 {w : World} {g B k : Nat} {ad : Addr} {f : Fl} {a : Ac} {y0 y1 y2 y3 y4 y5 y6 y7 : Value} (hB : ¬ B = g) (hne : ¬ (ad.add (k * 9)).block = g) (h : w.cell? ⟨B, 0, none⟩ = some (.int .i64 f.asked) ∧ w.cell? ⟨B, 1, none⟩ = some (.int .i64 f.now) ∧ w.cell? ⟨B, 2, none⟩ = some (.bool f.stopped) ∧ w.cell? ⟨B, 3, none⟩ = some (.bool f.told) ∧ w.cell? ⟨B, 4, none⟩ = some (.int .u8 f.num) ∧ w.cell? ⟨B, 5, none⟩ = some (.bool f.m1) ∧ w.cell? ⟨B, 6, none⟩ = some (.bool f.m2) ∧ w.cell? ⟨B, 7, none⟩ = some (.bool f.m3) ∧ w.cell? (ad.add (k * 9)) = some (.int .i64 a.act) ∧ w.cell? ⟨(ad.add (k * 9)).block, (ad.add (k * 9)).off + 1, none⟩ = some (.bool a.x.key) ∧ w.cell? ⟨(ad.add (k * 9)).block, (ad.add (k * 9)).off + 2, none⟩ = some (.int .u8 a.x.tid) ∧ w.cell? ⟨(ad.add (k * 9)).block, (ad.add (k * 9)).off + 3, none⟩ = some (.bool a.x.sync) ∧ w.cell? ⟨(ad.add (k * 9)).block, (ad.add (k * 9)).off + 4, none⟩ = some (.bool a.x.drop) ∧ w.cell? ⟨(ad.add (k * 9)).block, (ad.add (k * 9)).off + 5, none⟩ = some (.bool a.x.has) ∧ w.cell? ⟨(ad.add (k * 9)).block, (ad.add (k * 9)).off + 6, none⟩ = some (.int .u8 a.x.tl0) ∧ w.cell? ⟨(ad.add (k * 9)).block, (ad.add (k * 9)).off + 7, none⟩ = some (.bool a.known) ∧ w.cell? ⟨(ad.add (k * 9)).block, (ad.add (k * 9)).off + 8, none⟩ = some (.int .i64 a.cap)) : ((((((((w.setCell ⟨g, 0, none⟩ y0).setCell ⟨g, 1, none⟩ y1).setCell ⟨g, 2, none⟩ y2).setCell ⟨g, 3, none⟩ y3).setCell ⟨g, 4, none⟩ y4).setCell ⟨g, 5, none⟩ y5).setCell ⟨g, 6, none⟩ y6).setCell ⟨g, 7, none⟩ y7).cell? ⟨B, 0, none⟩ = some (.int .i64 f.asked) ∧ ((((((((w.setCell ⟨g, 0, none⟩ y0).setCell ⟨g, 1, none⟩ y1).setCell ⟨g, 2, none⟩ y2).setCell ⟨g, 3, none⟩ y3).setCell ⟨g, 4, none⟩ y4).setCell ⟨g, 5, none⟩ y5).setCell ⟨g, 6, none⟩ y6).setCell ⟨g, 7, none⟩ y7).cell? ⟨B, 1, none⟩ = some (.int .i64 f.now) ∧ ((((((((w.setCell ⟨g, 0, none⟩ y0).setCell ⟨g, 1, none⟩ y1).setCell ⟨g, 2, none⟩ y2).setCell ⟨g, 3, none⟩ y3).setCell ⟨g, 4, none⟩ y4).setCell ⟨g, 5, none⟩ y5).setCell ⟨g, 6, none⟩ y6).setCell ⟨g, 7, none⟩ y7).cell? ⟨B, 2, none⟩ = some (.bool f.stopped) ∧ ((((((((w.setCell ⟨g, 0, none⟩ y0).setCell ⟨g, 1, none⟩ y1).setCell ⟨g, 2, none⟩ y2).setCell ⟨g, 3, none⟩ y3).setCell ⟨g, 4, none⟩ y4).setCell ⟨g, 5, none⟩ y5).setCell ⟨g, 6, none⟩ y6).setCell ⟨g, 7, none⟩ y7).cell? ⟨B, 3, none⟩ = some (.bool f.told) ∧ ((((((((w.setCell ⟨g, 0, none⟩ y0).setCell ⟨g, 1, none⟩ y1).setCell ⟨g, 2, none⟩ y2).setCell ⟨g, 3, none⟩ y3).setCell ⟨g, 4, none⟩ y4).setCell ⟨g, 5, none⟩ y5).setCell ⟨g, 6, none⟩ y6).setCell ⟨g, 7, none⟩ y7).cell? ⟨B, 4, none⟩ = some (.int .u8 f.num) ∧ ((((((((w.setCell ⟨g, 0, none⟩ y0).setCell ⟨g, 1, none⟩ y1).setCell ⟨g, 2, none⟩ y2).setCell ⟨g, 3, none⟩ y3).setCell ⟨g, 4, none⟩ y4).setCell ⟨g, 5, none⟩ y5).setCell ⟨g, 6, none⟩ y6).setCell ⟨g, 7, none⟩ y7).cell? ⟨B, 5, none⟩ = some (.bool f.m1) ∧ ((((((((w.setCell ⟨g, 0, none⟩ y0).setCell ⟨g, 1, none⟩ y1).setCell ⟨g, 2, none⟩ y2).setCell ⟨g, 3, none⟩ y3).setCell ⟨g, 4, none⟩ y4).setCell ⟨g, 5, none⟩ y5).setCell ⟨g, 6, none⟩ y6).setCell ⟨g, 7, none⟩ y7).cell? ⟨B, 6, none⟩ = some (.bool f.m2) ∧ ((((((((w.setCell ⟨g, 0, none⟩ y0).setCell ⟨g, 1, none⟩ y1).setCell ⟨g, 2, none⟩ y2).setCell ⟨g, 3, none⟩ y3).setCell ⟨g, 4, none⟩ y4).setCell ⟨g, 5, none⟩ y5).setCell ⟨g, 6, none⟩ y6).setCell ⟨g, 7, none⟩ y7).cell? ⟨B, 7, none⟩ = some (.bool f.m3) ∧ ((((((((w.setCell ⟨g, 0, none⟩ y0).setCell ⟨g, 1, none⟩ y1).setCell ⟨g, 2, none⟩ y2).setCell ⟨g, 3, none⟩ y3).setCell ⟨g, 4, none⟩ y4).setCell ⟨g, 5, none⟩ y5).setCell ⟨g, 6, none⟩ y6).setCell ⟨g, 7, none⟩ y7).cell? (ad.add (k * 9)) = some (.int .i64 a.act) ∧ ((((((((w.setCell ⟨g, 0, none⟩ y0).setCell ⟨g, 1, none⟩ y1).setCell ⟨g, 2, none⟩ y2).setCell ⟨g, 3, none⟩ y3).setCell ⟨g, 4, none⟩ y4).setCell ⟨g, 5, none⟩ y5).setCell ⟨g, 6, none⟩ y6).setCell ⟨g, 7, none⟩ y7).cell? ⟨(ad.add (k * 9)).block, (ad.add (k * 9)).off + 1, none⟩ = some (.bool a.x.key) ∧ ((((((((w.setCell ⟨g, 0, none⟩ y0).setCell ⟨g, 1, none⟩ y1).setCell ⟨g, 2, none⟩ y2).setCell ⟨g, 3, none⟩ y3).setCell ⟨g, 4, none⟩ y4).setCell ⟨g, 5, none⟩ y5).setCell ⟨g, 6, none⟩ y6).setCell ⟨g, 7, none⟩ y7).cell? ⟨(ad.add (k * 9)).block, (ad.add (k * 9)).off + 2, none⟩ = some (.int .u8 a.x.tid) ∧ ((((((((w.setCell ⟨g, 0, none⟩ y0).setCell ⟨g, 1, none⟩ y1).setCell ⟨g, 2, none⟩ y2).setCell ⟨g, 3, none⟩ y3).setCell ⟨g, 4, none⟩ y4).setCell ⟨g, 5, none⟩ y5).setCell ⟨g, 6, none⟩ y6).setCell ⟨g, 7, none⟩ y7).cell? ⟨(ad.add (k * 9)).block, (ad.add (k * 9)).off + 3, none⟩ = some (.bool a.x.sync) ∧ ((((((((w.setCell ⟨g, 0, none⟩ y0).setCell ⟨g, 1, none⟩ y1).setCell ⟨g, 2, none⟩ y2).setCell ⟨g, 3, none⟩ y3).setCell ⟨g, 4, none⟩ y4).setCell ⟨g, 5, none⟩ y5).setCell ⟨g, 6, none⟩ y6).setCell ⟨g, 7, none⟩ y7).cell? ⟨(ad.add (k * 9)).block, (ad.add (k * 9)).off + 4, none⟩ = some (.bool a.x.drop) ∧ ((((((((w.setCell ⟨g, 0, none⟩ y0).setCell ⟨g, 1, none⟩ y1).setCell ⟨g, 2, none⟩ y2).setCell ⟨g, 3, none⟩ y3).setCell ⟨g, 4, none⟩ y4).setCell ⟨g, 5, none⟩ y5).setCell ⟨g, 6, none⟩ y6).setCell ⟨g, 7, none⟩ y7).cell? ⟨(ad.add (k * 9)).block, (ad.add (k * 9)).off + 5, none⟩ = some (.bool a.x.has) ∧ ((((((((w.setCell ⟨g, 0, none⟩ y0).setCell ⟨g, 1, none⟩ y1).setCell ⟨g, 2, none⟩ y2).setCell ⟨g, 3, none⟩ y3).setCell ⟨g, 4, none⟩ y4).setCell ⟨g, 5, none⟩ y5).setCell ⟨g, 6, none⟩ y6).setCell ⟨g, 7, none⟩ y7).cell? ⟨(ad.add (k * 9)).block, (ad.add (k * 9)).off + 6, none⟩ = some (.int .u8 a.x.tl0) ∧ ((((((((w.setCell ⟨g, 0, none⟩ y0).setCell ⟨g, 1, none⟩ y1).setCell ⟨g, 2, none⟩ y2).setCell ⟨g, 3, none⟩ y3).setCell ⟨g, 4, none⟩ y4).setCell ⟨g, 5, none⟩ y5).setCell ⟨g, 6, none⟩ y6).setCell ⟨g, 7, none⟩ y7).cell? ⟨(ad.add (k * 9)).block, (ad.add (k * 9)).off + 7, none⟩ = some (.bool a.known) ∧ ((((((((w.setCell ⟨g, 0, none⟩ y0).setCell ⟨g, 1, none⟩ y1).setCell ⟨g, 2, none⟩ y2).setCell ⟨g, 3, none⟩ y3).setCell ⟨g, 4, none⟩ y4).setCell ⟨g, 5, none⟩ y5).setCell ⟨g, 6, none⟩ y6).setCell ⟨g, 7, none⟩ y7).cell? ⟨(ad.add (k * 9)).block, (ad.add (k * 9)).off + 8, none⟩ = some (.int .i64 a.cap) := by
  obtain ⟨c0, c1, c2, c3, c4, c5, c6, c7, e0, e1, e2, e3, e4, e5, e6, e7, e8⟩ := h
  exact ⟨keepS _ _ _ _ _ _ _ _ c0 hB, keepS _ _ _ _ _ _ _ _ c1 hB, keepS _ _ _ _ _ _ _ _ c2 hB, keepS _ _ _ _ _ _ _ _ c3 hB, keepS _ _ _ _ _ _ _ _ c4 hB, keepS _ _ _ _ _ _ _ _ c5 hB, keepS _ _ _ _ _ _ _ _ c6 hB, keepS _ _ _ _ _ _ _ _ c7 hB, keepS _ _ _ _ _ _ _ _ e0 hne, keepS _ _ _ _ _ _ _ _ e1 hne, keepS _ _ _ _ _ _ _ _ e2 hne, keepS _ _ _ _ _ _ _ _ e3 hne, keepS _ _ _ _ _ _ _ _ e4 hne, keepS _ _ _ _ _ _ _ _ e5 hne, keepS _ _ _ _ _ _ _ _ e6 hne, keepS _ _ _ _ _ _ _ _ e7 hne, keepS _ _ _ _ _ _ _ _ e8 hne⟩
/-- An act's cells, as the walk reckons them. -/
theorem act_cells {w0 w : World} {ad : Addr} {xs : List Ac} {k : Nat} {a : Ac} (hA : Acts w0 w0.heap.size (some ad) xs) (ha : xs[k]? = some a) (hb : Below w0.heap.size w0 w) : w.cell? (ad.add (k * 9)) = some (.int .i64 a.act) ∧ w.cell? ⟨(ad.add (k * 9)).block, (ad.add (k * 9)).off + 1, none⟩ = some (.bool a.x.key) ∧ w.cell? ⟨(ad.add (k * 9)).block, (ad.add (k * 9)).off + 2, none⟩ = some (.int .u8 a.x.tid) ∧ w.cell? ⟨(ad.add (k * 9)).block, (ad.add (k * 9)).off + 3, none⟩ = some (.bool a.x.sync) ∧ w.cell? ⟨(ad.add (k * 9)).block, (ad.add (k * 9)).off + 4, none⟩ = some (.bool a.x.drop) ∧ w.cell? ⟨(ad.add (k * 9)).block, (ad.add (k * 9)).off + 5, none⟩ = some (.bool a.x.has) ∧ w.cell? ⟨(ad.add (k * 9)).block, (ad.add (k * 9)).off + 6, none⟩ = some (.int .u8 a.x.tl0) ∧ w.cell? ⟨(ad.add (k * 9)).block, (ad.add (k * 9)).off + 7, none⟩ = some (.bool a.known) ∧ w.cell? ⟨(ad.add (k * 9)).block, (ad.add (k * 9)).off + 8, none⟩ = some (.int .i64 a.cap) := by
  obtain ⟨ad', e, hab, hc⟩ := hA.2 (by have := (List.getElem?_eq_some_iff.1 ha).1; omega)
  cases e
  obtain ⟨-, hcell⟩ := hc k a ha
  have hcw : ∀ c, c < 9 → w.cell? (ad.add (k * 9 + c)) = a.cells[c]? := fun c hc => (hb.cell (by rw [block_of_add]; exact hab)).trans (hcell c hc)
  have ez : ∀ c, w.cell? ⟨(ad.add (k * 9)).block, (ad.add (k * 9)).off + (c + 1), none⟩ = w.cell? (ad.add (k * 9 + (c + 1))) := by
    intro c
    show w.cell? ((ad.add (k * 9)).add (c + 1)) = _
    rw [Go.Deep.add_add]
  exact ⟨hcw 0 (by omega), (ez 0).trans (hcw 1 (by omega)), (ez 1).trans (hcw 2 (by omega)), (ez 2).trans (hcw 3 (by omega)), (ez 3).trans (hcw 4 (by omega)), (ez 4).trans (hcw 5 (by omega)), (ez 5).trans (hcw 6 (by omega)), (ez 6).trans (hcw 7 (by omega)), (ez 7).trans (hcw 8 (by omega))⟩
set_option maxRecDepth 100000 in
theorem plays_long (A : Option Addr) (len cap : Nat) (w : World) (hl : 200 < len) : Calls Try.prog 5 #[.slice A len cap] w fun e w' => e = .returned (.bool true) ∧ Below w.heap.size w w' := by
  go_enter Try.func5, Try.ntmps5
  go_wp2_with (first
    | (go_at_call 8; refine (works_any _).mono ?_; rintro e w' ⟨rfl, hb⟩))
  go_ret
  exact ⟨rfl, hb⟩
set_option maxHeartbeats 8000000 in
set_option maxRecDepth 100000 in
theorem plays_main (A : Option Addr) (cap : Nat) (xs : List Ac) (w : World) (hl : xs.length ≤ 200) (hA : Acts w w.heap.size A xs) : Calls Try.prog 5 #[.slice A xs.length cap] w fun e w' => e = .returned (.bool true) ∧ Below w.heap.size w w' := by
  have HA := Lib.hid hA
  clear hA
  go_enter Try.func5, Try.ntmps5
  go_wp2_with fail
  refine (new_any w).mono ?_
  rintro e w1 ⟨rfl, hw1⟩
  have hf1 : Fb w1 w.heap.size new := by rw [hw1]; exact Blk.new w 59 _
  have hb1 : Below w.heap.size w w1 := by rw [hw1]; exact (Below.refl _ w).alloc (Nat.le_refl _) _
  have HF := Lib.hid hf1
  have HB := Lib.hid hb1
  clear hw1 hf1 hb1
  unfold P
  go_wp2_with fail
  refine (rnew_any w1).mono ?_
  rintro e w2 ⟨rfl, hw2⟩
  have hf2 : Fb w2 w.heap.size new := by rw [hw2]; exact HF.out.alloc _
  have hb2 : Below w.heap.size w w2 := by rw [hw2]; exact HB.out.alloc HB.out.size _
  have hlt : w.heap.size < w2.heap.size := hf2.lt
  have HF2 := Lib.hid hf2
  have HB2 := Lib.hid hb2
  clear hw2 hf2 hb2 HF HB
  simp only [Fl.rc, rc]
  go_wp2_with fail
  have hr3 : Blk (w2.alloc (.cells new.rc 46)) w2.heap.size 46 new.rc := Blk.new w2 46 _
  have hf3 : Fb (w2.alloc (.cells new.rc 46)) w.heap.size new := HF2.out.alloc _
  have hb3 : Below w.heap.size w (w2.alloc (.cells new.rc 46)) := HB2.out.alloc HB2.out.size _
  obtain ⟨w3, hw3⟩ : ∃ w3, w2.alloc (.cells new.rc 46) = w3 := ⟨_, rfl⟩
  rw [hw3] at hr3 hf3 hb3
  simp only [Fl.rc, rc] at hw3
  rw [hw3]
  obtain ⟨B, hB⟩ : ∃ B, w2.heap.size = B := ⟨_, rfl⟩
  rw [hB] at hr3 hlt ⊢
  clear hB hw3 HF2 HB2
  have HR3 := Lib.hid hr3
  have HF3 := Lib.hid hf3
  have HB3 := Lib.hid hb3
  clear hr3 hf3 hb3
  refine (is_any _ new _ HF3.out).mono ?_
  rintro e w4 ⟨rfl, hb4⟩
  have HR4 := Lib.hid (HR3.out.below hb4 HR3.out.lt)
  have HF4 := Lib.hid (HF3.out.below hb4 HF3.out.lt)
  have HB4 := Lib.hid (HB3.out.trans (hb4.mono HB3.out.size))
  clear hb4 HR3 HF3 HB3
  go_wp2_with fail
  go_loopw [5] (fun v wr => ∃ (k : Nat) (f : Fl), v = .int .i64 k ∧ k ≤ xs.length ∧ f.ok ∧ Fb wr w.heap.size f ∧ Blk wr B 46 f.rc ∧ Below w.heap.size w wr) (fun v _ => xs.length - (intOf v).toNat)
  case atStart => exact ⟨0, new, rfl, Nat.zero_le _, new_law, HF4.out, HR4.out, HB4.out⟩
  case round =>
    obtain ⟨k, f, rfl, hk, hok, hf, hr, hb⟩ := hrel
    have HF := Lib.hid hf
    have HR := Lib.hid hr
    have HB := Lib.hid hb
    clear hf hr hb HF4 HR4 HB4
    by_cases hlt' : k < xs.length
    · obtain ⟨a, ha⟩ : ∃ a, xs[k]? = some a := ⟨_, List.getElem?_eq_getElem hlt'⟩
      obtain ⟨ad, hAd, hab, hc⟩ := HA.out.2 (by omega)
      subst hAd
      have hok' := (hc k a ha).1
      have HAC := Lib.hid (fun W (hW : Below w.heap.size w W) => act_cells HA.out ha hW)
      have HOK := Lib.hid hok
      have HAO := Lib.hid hok'
      have hkk : (k : Int) < xs.length := by omega
      have kk0 : (0 : Int) ≤ (k : Int) := by omega
      clear hc ha hok hok'
      obtain ⟨r0, r1, r2, r3, r4, r5, r6, r7⟩ := rc_cells HR.out
      go_wp2_with fail
      refine (copy_any _ f _ HF.out).mono ?_
      rintro e w5 ⟨rfl, hw5⟩
      have hR5 : Blk w5 B 46 f.rc := by rw [hw5]; exact HR.out.alloc _
      clear r0 r1 r2 r3 r4 r5 r6 r7
      obtain ⟨r0, r1, r2, r3, r4, r5, r6, r7⟩ := rc_cells hR5
      have HW5 := Lib.hid hw5
      clear hw5 hR5
      unfold P
      go_wp2_with fail
      have hP6 := pk_start (w0 := w) (B := B) HF.out HR.out HB.out hlt
      have hw5 := HW5.out
      subst hw5
      obtain ⟨w6, hw6⟩ : ∃ w6, (wr.alloc (.cells f.cells 59)).alloc (.cells f.rc 46) = w6 := ⟨_, rfl⟩
      rw [hw6] at hP6
      simp only [Fl.rc, rc] at hw6
      rw [hw6]
      rw [World.size_alloc]
      clear hw6 HW5 r0 r1 r2 r3 r4 r5 r6 r7
      obtain ⟨C, hC⟩ : ∃ C, wr.heap.size = C := ⟨_, rfl⟩
      rw [hC] at hP6 ⊢
      have HP6 := Lib.hid hP6
      clear hP6 hC HF HR HB
      have HDO := fun W (hW : Fb W w.heap.size f) => does_any w.heap.size f a W hW HOK.out HAO.out
      have HDC := fun W (hW : Fb W C f) => does_any C f a W hW HOK.out HAO.out
      have HNO := Lib.hid (step_ok f a HOK.out HAO.out)
      generalize f.step a = n at HDO HDC HNO
      have HDO' := Lib.hid HDO
      have HDC' := Lib.hid HDC
      clear HDO HDC
      unfold P at HDO' HDC'
      simp only [Fl.rc, rc, Ac.arr] at HDO' HDC'
      obtain ⟨⟨pc0, pc1, pc2, pc3, pc4, pc5, pc6, pc7⟩, ⟨pf0, pf1, pf2, pf3, pf4, pf5, pf6, pf7⟩, ⟨ps0, ps1, ps2, ps3, ps4, ps5, ps6, ps7⟩, pz⟩ := pk_cells HP6.out
      obtain ⟨e0, e1, e2, e3, e4, e5, e6, e7, e8⟩ := HAC.out w6 HP6.out.2.2.2.2.1
      have hBC := HP6.out.2.2.2.2.2.2.1
      have hbk : (ad.add (k * 9)).block < w.heap.size := by rw [block_of_add]; exact hab
      have ned2 : ¬ (ad.add (k * 9)).block = w6.heap.size := by omega
      have ne61 : ¬ w6.heap.size = B := by omega
      have ne62 : ¬ B = w6.heap.size := by omega
      have ne63 : ¬ w6.heap.size = C + 1 := by omega
      have ne64 : ¬ C + 1 = w6.heap.size := by omega
      go_cut [8, 9] (fun s8 s9 wx => ∃ g : Nat, s8 = .pointer (some ⟨g, 0, none⟩) ∧ s9 = .bool true ∧ Pk w wx B C n f f f ∧ Blk wx g 46 n.rc ∧ C + 1 < g)
      case first =>
        go_region_held3 (fun w' => w'.cell? ⟨B, 0, none⟩ = some (.int .i64 f.asked) ∧ w'.cell? ⟨B, 1, none⟩ = some (.int .i64 f.now) ∧ w'.cell? ⟨B, 2, none⟩ = some (.bool f.stopped) ∧ w'.cell? ⟨B, 3, none⟩ = some (.bool f.told) ∧ w'.cell? ⟨B, 4, none⟩ = some (.int .u8 f.num) ∧ w'.cell? ⟨B, 5, none⟩ = some (.bool f.m1) ∧ w'.cell? ⟨B, 6, none⟩ = some (.bool f.m2) ∧ w'.cell? ⟨B, 7, none⟩ = some (.bool f.m3) ∧ w'.cell? (ad.add (k * 9)) = some (.int .i64 a.act) ∧ w'.cell? ⟨(ad.add (k * 9)).block, (ad.add (k * 9)).off + 1, none⟩ = some (.bool a.x.key) ∧ w'.cell? ⟨(ad.add (k * 9)).block, (ad.add (k * 9)).off + 2, none⟩ = some (.int .u8 a.x.tid) ∧ w'.cell? ⟨(ad.add (k * 9)).block, (ad.add (k * 9)).off + 3, none⟩ = some (.bool a.x.sync) ∧ w'.cell? ⟨(ad.add (k * 9)).block, (ad.add (k * 9)).off + 4, none⟩ = some (.bool a.x.drop) ∧ w'.cell? ⟨(ad.add (k * 9)).block, (ad.add (k * 9)).off + 5, none⟩ = some (.bool a.x.has) ∧ w'.cell? ⟨(ad.add (k * 9)).block, (ad.add (k * 9)).off + 6, none⟩ = some (.int .u8 a.x.tl0) ∧ w'.cell? ⟨(ad.add (k * 9)).block, (ad.add (k * 9)).off + 7, none⟩ = some (.bool a.known) ∧ w'.cell? ⟨(ad.add (k * 9)).block, (ad.add (k * 9)).off + 8, none⟩ = some (.int .i64 a.cap)) (first | with_reducible exact keep17 ne62 ned2 ⟨qc0, qc1, qc2, qc3, qc4, qc5, qc6, qc7, qe0, qe1, qe2, qe3, qe4, qe5, qe6, qe7, qe8⟩ | go_keep)
          (first
            | (go_at_call 25; refine (HDO'.out w6.drew (pk_drew HP6.out).1).mono ?_; rintro e w7 ⟨rfl, hf7, hg7⟩; have HP7 := Lib.hid (pk_own (pk_drew HP6.out) hf7 hg7); clear hf7 hg7; obtain ⟨⟨qc0, qc1, qc2, qc3, qc4, qc5, qc6, qc7⟩, ⟨qf0, qf1, qf2, qf3, qf4, qf5, qf6, qf7⟩, ⟨qs0, qs1, qs2, qs3, qs4, qs5, qs6, qs7⟩, qz⟩ := pk_cells HP7.out; obtain ⟨qe0, qe1, qe2, qe3, qe4, qe5, qe6, qe7, qe8⟩ := HAC.out w7 HP7.out.2.2.2.2.1)
            | (go_at_call 25; refine (HDO'.out (w6.alloc (.cells #[.int .i64 0, .int .i64 0, .bool false, .bool false, .int .u8 0, .bool false, .bool false, .bool false] 46)).drew (pk_drew (pk_alloc HP6.out _)).1).mono ?_; rintro e w7 ⟨rfl, hf7, hg7⟩; have HZ7 := Lib.hid (zb_only (Blk.drew (zb_new w6)) hg7 (by omega)); have HP7 := Lib.hid (pk_own (pk_drew (pk_alloc HP6.out _)) hf7 hg7); clear hf7 hg7; obtain ⟨⟨zc0, zc1, zc2, zc3, zc4, zc5, zc6, zc7⟩, zf0, zf1, zf2, zf3, zf4, zf5, zf6, zf7⟩ := zb_cells HZ7.out; obtain ⟨⟨qc0, qc1, qc2, qc3, qc4, qc5, qc6, qc7⟩, ⟨qf0, qf1, qf2, qf3, qf4, qf5, qf6, qf7⟩, ⟨qs0, qs1, qs2, qs3, qs4, qs5, qs6, qs7⟩, qz⟩ := pk_cells HP7.out; obtain ⟨qe0, qe1, qe2, qe3, qe4, qe5, qe6, qe7, qe8⟩ := HAC.out w7 HP7.out.2.2.2.2.1))
        all_goals (go_wp2_with fail; go_meet)
        case rel => exact ⟨_, rfl, rfl, pk_alloc HP7.out _, Blk.new _ 46 _, HP7.out.2.2.2.2.2.2.2⟩
        case rel => exact ⟨_, rfl, rfl, pk_far HP7.out (by omega) (.int .i64 n.asked) (.int .i64 n.now) (.bool n.stopped) (.bool n.told) (.int .u8 n.num) (.bool n.m1) (.bool n.m2) (.bool n.m3), put8 HZ7.out (.int .i64 n.asked) (.int .i64 n.now) (.bool n.stopped) (.bool n.told) (.int .u8 n.num) (.bool n.m1) (.bool n.m2) (.bool n.m3), by omega⟩
      case rest =>
        obtain ⟨g, rfl, rfl, hP, hG, hCg⟩ := hcut
        have HP7 := Lib.hid hP
        obtain ⟨n0, n1, n2, n3, n4, n5, n6, n7⟩ := rc_cells hG
        clear hP hG HP6 HDO' pc0 pc1 pc2 pc3 pc4 pc5 pc6 pc7 pf0 pf1 pf2 pf3 pf4 pf5 pf6 pf7 ps0 ps1 ps2 ps3 ps4 ps5 ps6 ps7 pz e0 e1 e2 e3 e4 e5 e6 e7 e8 ned2 ne61 ne62 ne63 ne64
        have hBC : B < C := HP7.out.2.2.2.2.2.2.1
        have neg1 : ¬ C + 1 = B := by omega
        have neg2 : ¬ B = C + 1 := by omega
        have neg3 : ¬ g = B := by omega
        have neg4 : ¬ B = g := by omega
        obtain ⟨⟨pc0, pc1, pc2, pc3, pc4, pc5, pc6, pc7⟩, ⟨pf0, pf1, pf2, pf3, pf4, pf5, pf6, pf7⟩, ⟨ps0, ps1, ps2, ps3, ps4, ps5, ps6, ps7⟩, pz⟩ := pk_cells HP7.out
        go_wp2_with fail
        have hP8 := pk_put (n := n) HP7.out
        obtain ⟨w8, hw8⟩ : ∃ w8, ((((((((wc.setCell ⟨B, 0, none⟩ (.int .i64 n.asked)).setCell ⟨B, 1, none⟩ (.int .i64 n.now)).setCell ⟨B, 2, none⟩ (.bool n.stopped)).setCell ⟨B, 3, none⟩ (.bool n.told)).setCell ⟨B, 4, none⟩ (.int .u8 n.num)).setCell ⟨B, 5, none⟩ (.bool n.m1)).setCell ⟨B, 6, none⟩ (.bool n.m2)).setCell ⟨B, 7, none⟩ (.bool n.m3)) = w8 := ⟨_, rfl⟩
        rw [hw8] at hP8
        rw [hw8]
        have HP8 := Lib.hid hP8
        clear hw8 hP8 HP7 n0 n1 n2 n3 n4 n5 n6 n7 pc0 pc1 pc2 pc3 pc4 pc5 pc6 pc7 pf0 pf1 pf2 pf3 pf4 pf5 pf6 pf7 ps0 ps1 ps2 ps3 ps4 ps5 ps6 ps7 pz
        refine (is_any C f _ HP8.out.2.1).mono ?_
        rintro e w9 ⟨rfl, hb9⟩
        have HP9 := Lib.hid (pk_below HP8.out hb9)
        clear hb9 HP8
        obtain ⟨⟨pc0, pc1, pc2, pc3, pc4, pc5, pc6, pc7⟩, ⟨pf0, pf1, pf2, pf3, pf4, pf5, pf6, pf7⟩, ⟨ps0, ps1, ps2, ps3, ps4, ps5, ps6, ps7⟩, pz⟩ := pk_cells HP9.out
        obtain ⟨e0, e1, e2, e3, e4, e5, e6, e7, e8⟩ := HAC.out w9 HP9.out.2.2.2.2.1
        have ned2 : ¬ (ad.add (k * 9)).block = w9.heap.size := by omega
        have ne61 : ¬ w9.heap.size = C + 1 := by omega
        have ne62 : ¬ C + 1 = w9.heap.size := by omega
        go_wp2_with fail
        go_cut [10, 11] (fun _ s11 wx => s11 = .bool true ∧ Pk w wx B C n n n f)
        case first =>
          go_region_held3 (fun w' => w'.cell? ⟨C + 1, 0, none⟩ = some (.int .i64 f.asked) ∧ w'.cell? ⟨C + 1, 1, none⟩ = some (.int .i64 f.now) ∧ w'.cell? ⟨C + 1, 2, none⟩ = some (.bool f.stopped) ∧ w'.cell? ⟨C + 1, 3, none⟩ = some (.bool f.told) ∧ w'.cell? ⟨C + 1, 4, none⟩ = some (.int .u8 f.num) ∧ w'.cell? ⟨C + 1, 5, none⟩ = some (.bool f.m1) ∧ w'.cell? ⟨C + 1, 6, none⟩ = some (.bool f.m2) ∧ w'.cell? ⟨C + 1, 7, none⟩ = some (.bool f.m3) ∧ w'.cell? (ad.add (k * 9)) = some (.int .i64 a.act) ∧ w'.cell? ⟨(ad.add (k * 9)).block, (ad.add (k * 9)).off + 1, none⟩ = some (.bool a.x.key) ∧ w'.cell? ⟨(ad.add (k * 9)).block, (ad.add (k * 9)).off + 2, none⟩ = some (.int .u8 a.x.tid) ∧ w'.cell? ⟨(ad.add (k * 9)).block, (ad.add (k * 9)).off + 3, none⟩ = some (.bool a.x.sync) ∧ w'.cell? ⟨(ad.add (k * 9)).block, (ad.add (k * 9)).off + 4, none⟩ = some (.bool a.x.drop) ∧ w'.cell? ⟨(ad.add (k * 9)).block, (ad.add (k * 9)).off + 5, none⟩ = some (.bool a.x.has) ∧ w'.cell? ⟨(ad.add (k * 9)).block, (ad.add (k * 9)).off + 6, none⟩ = some (.int .u8 a.x.tl0) ∧ w'.cell? ⟨(ad.add (k * 9)).block, (ad.add (k * 9)).off + 7, none⟩ = some (.bool a.known) ∧ w'.cell? ⟨(ad.add (k * 9)).block, (ad.add (k * 9)).off + 8, none⟩ = some (.int .i64 a.cap)) (first | with_reducible exact keep17 ne62 ned2 ⟨qs0, qs1, qs2, qs3, qs4, qs5, qs6, qs7, qe0, qe1, qe2, qe3, qe4, qe5, qe6, qe7, qe8⟩ | go_keep)
            (first
              | (go_at_call 25; refine (HDC'.out w9.drew (pk_drew HP9.out).2.1).mono ?_; rintro e w10 ⟨rfl, hf10, hg10⟩; have HP10 := Lib.hid (pk_copy (pk_drew HP9.out) hf10 hg10); clear hf10 hg10; obtain ⟨⟨qc0, qc1, qc2, qc3, qc4, qc5, qc6, qc7⟩, ⟨qf0, qf1, qf2, qf3, qf4, qf5, qf6, qf7⟩, ⟨qs0, qs1, qs2, qs3, qs4, qs5, qs6, qs7⟩, qz⟩ := pk_cells HP10.out; obtain ⟨qe0, qe1, qe2, qe3, qe4, qe5, qe6, qe7, qe8⟩ := HAC.out w10 HP10.out.2.2.2.2.1)
              | (go_at_call 25; refine (HDC'.out (w9.alloc (.cells #[.int .i64 0, .int .i64 0, .bool false, .bool false, .int .u8 0, .bool false, .bool false, .bool false] 46)).drew (pk_drew (pk_alloc HP9.out _)).2.1).mono ?_; rintro e w10 ⟨rfl, hf10, hg10⟩; have HZ10 := Lib.hid (zb_only (Blk.drew (zb_new w9)) hg10 (by omega)); have HP10 := Lib.hid (pk_copy (pk_drew (pk_alloc HP9.out _)) hf10 hg10); clear hf10 hg10; obtain ⟨⟨zc0, zc1, zc2, zc3, zc4, zc5, zc6, zc7⟩, zf0, zf1, zf2, zf3, zf4, zf5, zf6, zf7⟩ := zb_cells HZ10.out; obtain ⟨⟨qc0, qc1, qc2, qc3, qc4, qc5, qc6, qc7⟩, ⟨qf0, qf1, qf2, qf3, qf4, qf5, qf6, qf7⟩, ⟨qs0, qs1, qs2, qs3, qs4, qs5, qs6, qs7⟩, qz⟩ := pk_cells HP10.out; obtain ⟨qe0, qe1, qe2, qe3, qe4, qe5, qe6, qe7, qe8⟩ := HAC.out w10 HP10.out.2.2.2.2.1))
          all_goals (go_wp2_with fail; go_meet)
          case rel => exact ⟨rfl, pk_alloc HP10.out _⟩
          case rel => exact ⟨rfl, pk_far HP10.out (by omega) (.int .i64 n.asked) (.int .i64 n.now) (.bool n.stopped) (.bool n.told) (.int .u8 n.num) (.bool n.m1) (.bool n.m2) (.bool n.m3)⟩
        case rest =>
          obtain ⟨rfl, hP⟩ := hcut
          obtain ⟨k1, k2, k3, k4, k5, k6, k7, k8⟩ := hP
          have HE := Lib.hid (And.intro k1 (And.intro k3 k5))
          clear k1 k2 k3 k4 k5 k6 k7 k8 HP9 HDC' pc0 pc1 pc2 pc3 pc4 pc5 pc6 pc7 pf0 pf1 pf2 pf3 pf4 pf5 pf6 pf7 ps0 ps1 ps2 ps3 ps4 ps5 ps6 ps7 pz e0 e1 e2 e3 e4 e5 e6 e7 e8
          go_wp2_with fail
          go_roundw
          case rel => exact ⟨k + 1, n, by simp, by omega, HNO.out, HE.out.1, HE.out.2.1, HE.out.2.2⟩
          case measure => simp [intOf]; omega
    · obtain rfl : k = xs.length := by omega
      go_wp2_with (go_at_call 8; refine (works_any _).mono ?_; rintro e w2 ⟨rfl, hb2⟩; have HB2 := Lib.hid (HB.out.trans (hb2.mono HB.out.size)); clear hb2)
      go_ret
      exact ⟨rfl, HB2.out⟩
theorem plays_any (v : Value) (w : World) (h : IsActs w v) : Calls Try.prog 5 #[v] w fun e w' => e = .returned (.bool true) ∧ Below w.heap.size w w' := by
  obtain ⟨A, cap, xs, rfl, -, -, hA⟩ := h
  rcases Nat.lt_or_ge 200 xs.length with hl | hl
  · exact plays_long A xs.length cap w hl
  · exact plays_main A cap xs w hl hA
end Go.Proofs.Ytnodnngakopooaa
