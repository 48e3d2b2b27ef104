/- What comes, of the filter and of the reference: they stay alike. Conditions: numbers of their kinds. -/
import Derived.Test.YtnodnngakopooaaNJoin
import Derived.Test.YtnodnngakopooaaIActs
import Derived.Deep.RegionHeld3
import Derived.Deep.CutBlock
namespace Go.Proofs.Ytnodnngakopooaa
open Go.RowKit

theorem is_any (b : Nat) (f : Fl) (w : World) (h : Fb w b f) : Calls Try.prog 23 #[P b, .agg f.rc] w fun e w' => e = .returned (.bool true) ∧ Below w.heap.size w w' := by
  have HH := Lib.hid (h.alloc (.cells f.rc 46))
  obtain ⟨told, num, m0, m1, m2, m3, asked, now, stopped⟩ := f
  have hl := h.lt
  clear h
  simp only [Fl.rc, rc] at HH ⊢
  unfold P
  go_enter Try.func23, Try.ntmps23
  go_wp2_with fail
  go_quiet ((first
    | (go_at_call 19; exact quiet_left (asked_any _ _ _ (HH.out.drewN _)))
    | (go_at_call 12; exact quiet_left (now_any _ _ _ (HH.out.drewN _)))
    | (go_at_call 13; exact quiet_left (stopped_any _ _ _ (HH.out.drewN _)))))
  go_wp2_with fail
  go_ret
  exact ⟨ret_bool (by simp), below_drewN ((Below.refl _ w).alloc (Nat.le_refl _) _) _⟩

def Ac.arr (a : Ac) : Array Value := #[.int .i64 a.act, .bool a.x.key, .int .u8 a.x.tid, .bool a.x.sync, .bool a.x.drop, .bool a.x.has, .int .u8 a.x.tl0, .bool a.known, .int .i64 a.cap]
/-- What a step leaves of the filter. -/
def Fl.step (f : Fl) (a : Ac) : Fl := if pick a.act 8 = 5 then (f.lost a.known a.x.tid a.x.drop).1 else if pick a.act 8 = 6 then f.cap a.cap else if pick a.act 8 = 7 then { f with stopped := true } else (act f a.x (rule f a.x)).1
/-- What is kept within a step: the filter, the boxes. -/
def Dk (w0 w : World) (b : Nat) (f r : Fl) (a : Ac) : Prop := Fb w b f ∧ Blk w w0.heap.size 46 r.rc ∧ Blk w (w0.heap.size + 1) 35 a.arr ∧ Blk w (w0.heap.size + 2) 46 (rc 0 0 false false 0 false false false) ∧ w0.grownBy w (some b) ∧ w0.heap.size + 2 < w.heap.size
theorem dk_start {w : World} {b : Nat} {f : Fl} {a : Ac} (h : Fb w b f) : Dk w (((w.alloc (.cells f.rc 46)).alloc (.cells a.arr 35)).alloc (.cells (rc 0 0 false false 0 false false false) 46)) b f f a := by
  have h1 := Blk.new w 46 f.rc
  have h2 := Blk.new (w.alloc (.cells f.rc 46)) 35 a.arr
  have h3 := Blk.new ((w.alloc (.cells f.rc 46)).alloc (.cells a.arr 35)) 46 (rc 0 0 false false 0 false false false)
  rw [World.size_alloc] at h2
  rw [World.size_alloc, World.size_alloc] at h3
  exact ⟨((h.alloc _).alloc _).alloc _, (h1.alloc _).alloc _, h2.alloc _, h3, only_alloc (only_alloc (only_alloc (World.grownBy.refl w _) _) _) _, by simp⟩
theorem dk_below {w0 w w' : World} {b : Nat} {f r : Fl} {a : Ac} (h : Dk w0 w b f r a) (hb : Below w.heap.size w w') : Dk w0 w' b f r a := by
  obtain ⟨h1, h2, h3, h4, h5, h6⟩ := h
  exact ⟨h1.below hb h1.lt, h2.below hb h2.lt, h3.below hb h3.lt, h4.below hb h4.lt, World.grownBy.trans h5 (only_of_below hb _), Nat.lt_of_lt_of_le h6 hb.size⟩
theorem dk_only {w0 w w' : World} {b : Nat} {f f' r : Fl} {a : Ac} (h : Dk w0 w b f r a) (hb0 : b < w0.heap.size) (hf : Fb w' b f') (hg : w.grownBy w' (some b)) : Dk w0 w' b f' r a := by
  obtain ⟨h1, h2, h3, h4, h5, h6⟩ := h
  exact ⟨hf, h2.grown hg (by intro e; cases e; omega), h3.grown hg (by intro e; cases e; omega), h4.grown hg (by intro e; cases e; omega), World.grownBy.trans h5 hg, Nat.lt_of_lt_of_le h6 hg.size⟩
theorem dk_drew {w0 w : World} {b : Nat} {f r : Fl} {a : Ac} (h : Dk w0 w b f r a) : Dk w0 w.drew b f r a := by
  obtain ⟨h1, h2, h3, h4, h5, h6⟩ := h
  exact ⟨h1.drew, h2.drew, h3.drew, h4.drew, only_drew h5, h6⟩
theorem arr_cells {w : World} {g : Nat} {a : Ac} (h : Blk w g 35 a.arr) :
    w.cell? ⟨g, 0, none⟩ = some (.int .i64 a.act) ∧ w.cell? ⟨g, 1, none⟩ = some (.bool a.x.key) ∧ w.cell? ⟨g, 2, none⟩ = some (.int .u8 a.x.tid) ∧ w.cell? ⟨g, 3, none⟩ = some (.bool a.x.sync) ∧ w.cell? ⟨g, 4, none⟩ = some (.bool a.x.drop) ∧ w.cell? ⟨g, 5, none⟩ = some (.bool a.x.has) ∧ w.cell? ⟨g, 6, none⟩ = some (.int .u8 a.x.tl0) ∧ w.cell? ⟨g, 7, none⟩ = some (.bool a.known) ∧ w.cell? ⟨g, 8, none⟩ = some (.int .i64 a.cap) :=
  ⟨h.cell 0, h.cell 1, h.cell 2, h.cell 3, h.cell 4, h.cell 5, h.cell 6, h.cell 7, h.cell 8⟩
theorem rc_cells {w : World} {g : Nat} {asked now : Int} {stopped has : Bool} {tl0 : Int} {one two three : Bool} (h : Blk w g 46 (rc asked now stopped has tl0 one two three)) :
    w.cell? ⟨g, 0, none⟩ = some (.int .i64 asked) ∧ w.cell? ⟨g, 1, none⟩ = some (.int .i64 now) ∧ w.cell? ⟨g, 2, none⟩ = some (.bool stopped) ∧ w.cell? ⟨g, 3, none⟩ = some (.bool has) ∧ w.cell? ⟨g, 4, none⟩ = some (.int .u8 tl0) ∧ w.cell? ⟨g, 5, none⟩ = some (.bool one) ∧ w.cell? ⟨g, 6, none⟩ = some (.bool two) ∧ w.cell? ⟨g, 7, none⟩ = some (.bool three) :=
  ⟨h.cell 0, h.cell 1, h.cell 2, h.cell 3, h.cell 4, h.cell 5, h.cell 6, h.cell 7⟩

/-- What is kept within a step behind the reference's answer. -/
def Dn (w0 w : World) (b : Nat) (f r : Fl) (a : Ac) (g : Nat) (n : Fl) : Prop := Dk w0 w b f r a ∧ Blk w g 46 n.rc ∧ w0.heap.size + 2 < g
theorem dn_below {w0 w w' : World} {b g : Nat} {f r n : Fl} {a : Ac} (h : Dn w0 w b f r a g n) (hb : Below w.heap.size w w') : Dn w0 w' b f r a g n := ⟨dk_below h.1 hb, h.2.1.below hb h.2.1.lt, h.2.2⟩
theorem dn_drew {w0 w : World} {b g : Nat} {f r n : Fl} {a : Ac} (h : Dn w0 w b f r a g n) : Dn w0 w.drew b f r a g n := ⟨dk_drew h.1, h.2.1.drew, h.2.2⟩
theorem dn_only {w0 w w' : World} {b g : Nat} {f f' r n : Fl} {a : Ac} (h : Dn w0 w b f r a g n) (hb0 : b < w0.heap.size) (hf : Fb w' b f') (hg : w.grownBy w' (some b)) : Dn w0 w' b f' r a g n :=
  ⟨dk_only h.1 hb0 hf hg, h.2.1.grown hg (by intro e; cases e; have := h.2.2; omega), h.2.2⟩
theorem dn_cells {w0 w : World} {b g : Nat} {f r n : Fl} {a : Ac} (h : Dn w0 w b f r a g n) :
    (w.cell? ⟨g, 0, none⟩ = some (.int .i64 n.asked) ∧ w.cell? ⟨g, 1, none⟩ = some (.int .i64 n.now) ∧ w.cell? ⟨g, 2, none⟩ = some (.bool n.stopped) ∧ w.cell? ⟨g, 3, none⟩ = some (.bool n.told) ∧ w.cell? ⟨g, 4, none⟩ = some (.int .u8 n.num) ∧ w.cell? ⟨g, 5, none⟩ = some (.bool n.m1) ∧ w.cell? ⟨g, 6, none⟩ = some (.bool n.m2) ∧ w.cell? ⟨g, 7, none⟩ = some (.bool n.m3)) ∧
    (w.cell? ⟨w0.heap.size + 1, 0, none⟩ = some (.int .i64 a.act) ∧ w.cell? ⟨w0.heap.size + 1, 1, none⟩ = some (.bool a.x.key) ∧ w.cell? ⟨w0.heap.size + 1, 2, none⟩ = some (.int .u8 a.x.tid) ∧ w.cell? ⟨w0.heap.size + 1, 3, none⟩ = some (.bool a.x.sync) ∧ w.cell? ⟨w0.heap.size + 1, 4, none⟩ = some (.bool a.x.drop) ∧ w.cell? ⟨w0.heap.size + 1, 5, none⟩ = some (.bool a.x.has) ∧ w.cell? ⟨w0.heap.size + 1, 6, none⟩ = some (.int .u8 a.x.tl0) ∧ w.cell? ⟨w0.heap.size + 1, 7, none⟩ = some (.bool a.known) ∧ w.cell? ⟨w0.heap.size + 1, 8, none⟩ = some (.int .i64 a.cap)) ∧ (w.cell? ⟨w0.heap.size + 2, 0, none⟩ = some (.int .i64 0) ∧ w.cell? ⟨w0.heap.size + 2, 1, none⟩ = some (.int .i64 0) ∧ w.cell? ⟨w0.heap.size + 2, 2, none⟩ = some (.bool false) ∧ w.cell? ⟨w0.heap.size + 2, 3, none⟩ = some (.bool false) ∧ w.cell? ⟨w0.heap.size + 2, 4, none⟩ = some (.int .u8 0) ∧ w.cell? ⟨w0.heap.size + 2, 5, none⟩ = some (.bool false) ∧ w.cell? ⟨w0.heap.size + 2, 6, none⟩ = some (.bool false) ∧ w.cell? ⟨w0.heap.size + 2, 7, none⟩ = some (.bool false)) ∧
    (w.frozen? ⟨w0.heap.size + 2, 0, none⟩ = false ∧ w.frozen? ⟨w0.heap.size + 2, 1, none⟩ = false ∧ w.frozen? ⟨w0.heap.size + 2, 2, none⟩ = false ∧ w.frozen? ⟨w0.heap.size + 2, 3, none⟩ = false ∧ w.frozen? ⟨w0.heap.size + 2, 4, none⟩ = false ∧ w.frozen? ⟨w0.heap.size + 2, 5, none⟩ = false ∧ w.frozen? ⟨w0.heap.size + 2, 6, none⟩ = false ∧ w.frozen? ⟨w0.heap.size + 2, 7, none⟩ = false) ∧ w0.heap.size + 2 < w.heap.size :=
  ⟨rc_cells h.2.1, arr_cells h.1.2.2.1, rc_cells h.1.2.2.2.1, ⟨h.1.2.2.2.1.frozen 0, h.1.2.2.2.1.frozen 1, h.1.2.2.2.1.frozen 2, h.1.2.2.2.1.frozen 3, h.1.2.2.2.1.frozen 4, h.1.2.2.2.1.frozen 5, h.1.2.2.2.1.frozen 6, h.1.2.2.2.1.frozen 7⟩, h.1.2.2.2.2.2⟩
/-- Eight cells laid over a block of eight. -/
theorem put8 {w : World} {B : Nat} {x0 x1 x2 x3 x4 x5 x6 x7 : Value} (h : Blk w B 46 #[x0, x1, x2, x3, x4, x5, x6, x7]) (y0 y1 y2 y3 y4 y5 y6 y7 : Value) :
    Blk ((((((((w.setCell ⟨B, 0, none⟩ y0).setCell ⟨B, 1, none⟩ y1).setCell ⟨B, 2, none⟩ y2).setCell ⟨B, 3, none⟩ y3).setCell ⟨B, 4, none⟩ y4).setCell ⟨B, 5, none⟩ y5).setCell ⟨B, 6, none⟩ y6).setCell ⟨B, 7, none⟩ y7) B 46 #[y0, y1, y2, y3, y4, y5, y6, y7] := by
  have h0 : Blk (w.setCell ⟨B, 0, none⟩ y0) B 46 #[y0, x1, x2, x3, x4, x5, x6, x7] := Blk.set_ h 0 y0
  have h1 : Blk ((w.setCell ⟨B, 0, none⟩ y0).setCell ⟨B, 1, none⟩ y1) B 46 #[y0, y1, x2, x3, x4, x5, x6, x7] := Blk.set_ h0 1 y1
  have h2 : Blk (((w.setCell ⟨B, 0, none⟩ y0).setCell ⟨B, 1, none⟩ y1).setCell ⟨B, 2, none⟩ y2) B 46 #[y0, y1, y2, x3, x4, x5, x6, x7] := Blk.set_ h1 2 y2
  have h3 : Blk ((((w.setCell ⟨B, 0, none⟩ y0).setCell ⟨B, 1, none⟩ y1).setCell ⟨B, 2, none⟩ y2).setCell ⟨B, 3, none⟩ y3) B 46 #[y0, y1, y2, y3, x4, x5, x6, x7] := Blk.set_ h2 3 y3
  have h4 : Blk (((((w.setCell ⟨B, 0, none⟩ y0).setCell ⟨B, 1, none⟩ y1).setCell ⟨B, 2, none⟩ y2).setCell ⟨B, 3, none⟩ y3).setCell ⟨B, 4, none⟩ y4) B 46 #[y0, y1, y2, y3, y4, x5, x6, x7] := Blk.set_ h3 4 y4
  have h5 : Blk ((((((w.setCell ⟨B, 0, none⟩ y0).setCell ⟨B, 1, none⟩ y1).setCell ⟨B, 2, none⟩ y2).setCell ⟨B, 3, none⟩ y3).setCell ⟨B, 4, none⟩ y4).setCell ⟨B, 5, none⟩ y5) B 46 #[y0, y1, y2, y3, y4, y5, x6, x7] := Blk.set_ h4 5 y5
  have h6 : Blk (((((((w.setCell ⟨B, 0, none⟩ y0).setCell ⟨B, 1, none⟩ y1).setCell ⟨B, 2, none⟩ y2).setCell ⟨B, 3, none⟩ y3).setCell ⟨B, 4, none⟩ y4).setCell ⟨B, 5, none⟩ y5).setCell ⟨B, 6, none⟩ y6) B 46 #[y0, y1, y2, y3, y4, y5, y6, x7] := Blk.set_ h5 6 y6
  have h7 : Blk ((((((((w.setCell ⟨B, 0, none⟩ y0).setCell ⟨B, 1, none⟩ y1).setCell ⟨B, 2, none⟩ y2).setCell ⟨B, 3, none⟩ y3).setCell ⟨B, 4, none⟩ y4).setCell ⟨B, 5, none⟩ y5).setCell ⟨B, 6, none⟩ y6).setCell ⟨B, 7, none⟩ y7) B 46 #[y0, y1, y2, y3, y4, y5, y6, y7] := Blk.set_ h6 7 y7
  exact h7
theorem put8_only {w w0 : World} {b B : Nat} (h : w0.grownBy w (some b)) (hB : w0.heap.size ≤ B) (y0 y1 y2 y3 y4 y5 y6 y7 : Value) :
    w0.grownBy ((((((((w.setCell ⟨B, 0, none⟩ y0).setCell ⟨B, 1, none⟩ y1).setCell ⟨B, 2, none⟩ y2).setCell ⟨B, 3, none⟩ y3).setCell ⟨B, 4, none⟩ y4).setCell ⟨B, 5, none⟩ y5).setCell ⟨B, 6, none⟩ y6).setCell ⟨B, 7, none⟩ y7) (some b) := by
  have h0 : w0.grownBy (w.setCell ⟨B, 0, none⟩ y0) (some b) := only_new (p := ⟨B, 0, none⟩) h hB y0
  have h1 : w0.grownBy ((w.setCell ⟨B, 0, none⟩ y0).setCell ⟨B, 1, none⟩ y1) (some b) := only_new (p := ⟨B, 1, none⟩) h0 hB y1
  have h2 : w0.grownBy (((w.setCell ⟨B, 0, none⟩ y0).setCell ⟨B, 1, none⟩ y1).setCell ⟨B, 2, none⟩ y2) (some b) := only_new (p := ⟨B, 2, none⟩) h1 hB y2
  have h3 : w0.grownBy ((((w.setCell ⟨B, 0, none⟩ y0).setCell ⟨B, 1, none⟩ y1).setCell ⟨B, 2, none⟩ y2).setCell ⟨B, 3, none⟩ y3) (some b) := only_new (p := ⟨B, 3, none⟩) h2 hB y3
  have h4 : w0.grownBy (((((w.setCell ⟨B, 0, none⟩ y0).setCell ⟨B, 1, none⟩ y1).setCell ⟨B, 2, none⟩ y2).setCell ⟨B, 3, none⟩ y3).setCell ⟨B, 4, none⟩ y4) (some b) := only_new (p := ⟨B, 4, none⟩) h3 hB y4
  have h5 : w0.grownBy ((((((w.setCell ⟨B, 0, none⟩ y0).setCell ⟨B, 1, none⟩ y1).setCell ⟨B, 2, none⟩ y2).setCell ⟨B, 3, none⟩ y3).setCell ⟨B, 4, none⟩ y4).setCell ⟨B, 5, none⟩ y5) (some b) := only_new (p := ⟨B, 5, none⟩) h4 hB y5
  have h6 : w0.grownBy (((((((w.setCell ⟨B, 0, none⟩ y0).setCell ⟨B, 1, none⟩ y1).setCell ⟨B, 2, none⟩ y2).setCell ⟨B, 3, none⟩ y3).setCell ⟨B, 4, none⟩ y4).setCell ⟨B, 5, none⟩ y5).setCell ⟨B, 6, none⟩ y6) (some b) := only_new (p := ⟨B, 6, none⟩) h5 hB y6
  have h7 : w0.grownBy ((((((((w.setCell ⟨B, 0, none⟩ y0).setCell ⟨B, 1, none⟩ y1).setCell ⟨B, 2, none⟩ y2).setCell ⟨B, 3, none⟩ y3).setCell ⟨B, 4, none⟩ y4).setCell ⟨B, 5, none⟩ y5).setCell ⟨B, 6, none⟩ y6).setCell ⟨B, 7, none⟩ y7) (some b) := only_new (p := ⟨B, 7, none⟩) h6 hB y7
  exact h7
theorem far8 {w : World} {g B : Nat} {T : TypeId} {cs : Array Value} (h : Blk w g T cs) (hne : g ≠ B) (y0 y1 y2 y3 y4 y5 y6 y7 : Value) :
    Blk ((((((((w.setCell ⟨B, 0, none⟩ y0).setCell ⟨B, 1, none⟩ y1).setCell ⟨B, 2, none⟩ y2).setCell ⟨B, 3, none⟩ y3).setCell ⟨B, 4, none⟩ y4).setCell ⟨B, 5, none⟩ y5).setCell ⟨B, 6, none⟩ y6).setCell ⟨B, 7, none⟩ y7) g T cs := by
  have h0 : Blk (w.setCell ⟨B, 0, none⟩ y0) g T cs := Blk.far (p := ⟨B, 0, none⟩) h hne y0
  have h1 : Blk ((w.setCell ⟨B, 0, none⟩ y0).setCell ⟨B, 1, none⟩ y1) g T cs := Blk.far (p := ⟨B, 1, none⟩) h0 hne y1
  have h2 : Blk (((w.setCell ⟨B, 0, none⟩ y0).setCell ⟨B, 1, none⟩ y1).setCell ⟨B, 2, none⟩ y2) g T cs := Blk.far (p := ⟨B, 2, none⟩) h1 hne y2
  have h3 : Blk ((((w.setCell ⟨B, 0, none⟩ y0).setCell ⟨B, 1, none⟩ y1).setCell ⟨B, 2, none⟩ y2).setCell ⟨B, 3, none⟩ y3) g T cs := Blk.far (p := ⟨B, 3, none⟩) h2 hne y3
  have h4 : Blk (((((w.setCell ⟨B, 0, none⟩ y0).setCell ⟨B, 1, none⟩ y1).setCell ⟨B, 2, none⟩ y2).setCell ⟨B, 3, none⟩ y3).setCell ⟨B, 4, none⟩ y4) g T cs := Blk.far (p := ⟨B, 4, none⟩) h3 hne y4
  have h5 : Blk ((((((w.setCell ⟨B, 0, none⟩ y0).setCell ⟨B, 1, none⟩ y1).setCell ⟨B, 2, none⟩ y2).setCell ⟨B, 3, none⟩ y3).setCell ⟨B, 4, none⟩ y4).setCell ⟨B, 5, none⟩ y5) g T cs := Blk.far (p := ⟨B, 5, none⟩) h4 hne y5
  have h6 : Blk (((((((w.setCell ⟨B, 0, none⟩ y0).setCell ⟨B, 1, none⟩ y1).setCell ⟨B, 2, none⟩ y2).setCell ⟨B, 3, none⟩ y3).setCell ⟨B, 4, none⟩ y4).setCell ⟨B, 5, none⟩ y5).setCell ⟨B, 6, none⟩ y6) g T cs := Blk.far (p := ⟨B, 6, none⟩) h5 hne y6
  have h7 : Blk ((((((((w.setCell ⟨B, 0, none⟩ y0).setCell ⟨B, 1, none⟩ y1).setCell ⟨B, 2, none⟩ y2).setCell ⟨B, 3, none⟩ y3).setCell ⟨B, 4, none⟩ y4).setCell ⟨B, 5, none⟩ y5).setCell ⟨B, 6, none⟩ y6).setCell ⟨B, 7, none⟩ y7) g T cs := Blk.far (p := ⟨B, 7, none⟩) h6 hne y7
  exact h7
set_option maxHeartbeats 4000000 in
set_option maxRecDepth 100000 in
theorem does5 (b : Nat) (f : Fl) (a : Ac) (w : World) (h : Fb w b f) (hf : f.ok) (ha : a.ok) (hp : pick a.act 8 = 5) : Calls Try.prog 25 #[P b, .agg f.rc, .agg a.arr] w fun e w' => e = .returned (.tuple #[.agg (f.lost a.known a.x.tid a.x.drop).1.rc, .bool true]) ∧ Fb w' b (f.lost a.known a.x.tid a.x.drop).1 ∧ w.grownBy w' (some b) := by
  have HD := Lib.hid (dk_start (a := a) h)
  have hl := h.lt
  have HL := Lib.hid (fun W (hW : Fb W b f) => lost_any b f a.known a.x.tid a.x.drop W ha.1.1.1 ha.1.1.2 hf hW)
  have HR := Lib.hid (fun W => rlost_any f a.known a.x.tid a.x.drop W ha.1.1.1 ha.1.1.2 hf)
  have HP := Lib.hid hp
  clear h hf ha hp
  generalize (f.lost a.known a.x.tid a.x.drop).1 = f' at HL HR ⊢
  generalize (f.lost a.known a.x.tid a.x.drop).2 = v at HL HR
  unfold P at HL ⊢
  simp only [Fl.rc, rc, Ac.arr] at HD HR ⊢
  go_enter Try.func25, Try.ntmps25
  go_wp2_with fail
  refine (pick_lit HP.out _ (by omega)).mono ?_
  rintro e w' ⟨rfl, rfl⟩
  go_wp2_with fail
  refine (HR.out _).mono ?_
  rintro e w1 ⟨rfl, hb1⟩
  have HD1 := Lib.hid (dk_below HD.out hb1)
  clear hb1 HD HR
  obtain ⟨a0, a1, a2, a3, a4, a5, a6, a7, a8⟩ := arr_cells HD1.out.2.2.1
  go_wp2_with fail
  have hlt := HD1.out.2.2.2.2.2
  obtain ⟨w2, hw2⟩ : ∃ w2, w1.alloc (.cells #[.int .i64 f'.asked, .int .i64 f'.now, .bool f'.stopped, .bool f'.told, .int .u8 f'.num, .bool f'.m1, .bool f'.m2, .bool f'.m3] 46) = w2 := ⟨_, rfl⟩
  have hn2 : Blk w2 w1.heap.size 46 f'.rc := by rw [← hw2]; exact Blk.new w1 46 _
  have hD2 : Dk w w2 b f f a := by rw [← hw2]; exact dk_below HD1.out ((Below.refl _ w1).alloc (Nat.le_refl _) _)
  rw [hw2]
  obtain ⟨g, hg⟩ : ∃ g, w1.heap.size = g := ⟨_, rfl⟩
  rw [hg] at hn2 hlt ⊢
  have HD2 := Lib.hid (show Dn w w2 b f f a g f' from ⟨hD2, hn2, hlt⟩)
  clear hw2 hn2 hD2 hg HD1 a0 a1 a2 a3 a4 a5 a6 a7 a8
  obtain ⟨⟨c0, c1, c2, c3, c4, c5, c6, c7⟩, ⟨a0, a1, a2, a3, a4, a5, a6, a7, a8⟩, ⟨r0, r1, r2, r3, r4, r5, r6, r7⟩, ⟨z0, z1, z2, z3, z4, z5, z6, z7⟩, zz⟩ := dn_cells HD2.out
  have ne1 : ¬ g = w.heap.size + 1 + 1 := by omega
  have ne2 : ¬ w.heap.size + 1 + 1 = g := by omega
  go_region_held3 (fun w' => w'.cell? ⟨g, 0, none⟩ = some (.int .i64 f'.asked) ∧ w'.cell? ⟨g, 1, none⟩ = some (.int .i64 f'.now) ∧ w'.cell? ⟨g, 2, none⟩ = some (.bool f'.stopped) ∧ w'.cell? ⟨g, 3, none⟩ = some (.bool f'.told) ∧ w'.cell? ⟨g, 4, none⟩ = some (.int .u8 f'.num) ∧ w'.cell? ⟨g, 5, none⟩ = some (.bool f'.m1) ∧ w'.cell? ⟨g, 6, none⟩ = some (.bool f'.m2) ∧ w'.cell? ⟨g, 7, none⟩ = some (.bool f'.m3) ∧ w'.cell? ⟨w.heap.size + 1, 2, none⟩ = some (.int .u8 a.x.tid) ∧ w'.cell? ⟨w.heap.size + 1, 4, none⟩ = some (.bool a.x.drop) ∧ w'.cell? ⟨w.heap.size + 1, 7, none⟩ = some (.bool a.known)) (go_keep)
    (first
      | (go_at_call 15; refine (HL.out _ (by first | exact HD2.out.1.1 | exact (dn_drew HD2.out).1.1)).mono ?_; rintro e w3 ⟨rfl, hf3, hg3⟩; have HD3 := Lib.hid (dn_only (by first | exact HD2.out | exact dn_drew HD2.out) hl hf3 hg3); clear hf3 hg3; obtain ⟨⟨p0, p1, p2, p3, p4, p5, p6, p7⟩, ⟨q0, q1, q2, q3, q4, q5, q6, q7, q8⟩, -, -, ss⟩ := dn_cells HD3.out)
      | (go_at_call 23; refine (is_any b f' _ (by first | exact HD3.out.1.1 | exact (dn_drew HD3.out).1.1)).mono ?_; rintro e w4 ⟨rfl, hb4⟩; have HD4 := Lib.hid (dn_below (by first | exact HD3.out | exact dn_drew HD3.out) hb4); clear hb4; obtain ⟨⟨u0, u1, u2, u3, u4, u5, u6, u7⟩, ⟨v0, v1, v2, v3, v4, v5, v6, v7, v8⟩, ⟨r0, r1, r2, r3, r4, r5, r6, r7⟩, ⟨z0, z1, z2, z3, z4, z5, z6, z7⟩, zz⟩ := dn_cells HD4.out))
  obtain ⟨w5, hw5⟩ : ∃ w5, ((((((((w4.setCell ⟨w.heap.size + 1 + 1, 0, none⟩ (.int .i64 f'.asked)).setCell ⟨w.heap.size + 1 + 1, 1, none⟩ (.int .i64 f'.now)).setCell ⟨w.heap.size + 1 + 1, 2, none⟩ (.bool f'.stopped)).setCell ⟨w.heap.size + 1 + 1, 3, none⟩ (.bool f'.told)).setCell ⟨w.heap.size + 1 + 1, 4, none⟩ (.int .u8 f'.num)).setCell ⟨w.heap.size + 1 + 1, 5, none⟩ (.bool f'.m1)).setCell ⟨w.heap.size + 1 + 1, 6, none⟩ (.bool f'.m2)).setCell ⟨w.heap.size + 1 + 1, 7, none⟩ (.bool f'.m3)) = w5 := ⟨_, rfl⟩
  obtain ⟨⟨k1, k2, k3, k4, k5, k6⟩, k7, k8⟩ := HD4.out
  have hR5 : Blk w5 (w.heap.size + 2) 46 f'.rc := by rw [← hw5]; exact put8 k4 (.int .i64 f'.asked) (.int .i64 f'.now) (.bool f'.stopped) (.bool f'.told) (.int .u8 f'.num) (.bool f'.m1) (.bool f'.m2) (.bool f'.m3)
  have hG5 : w.grownBy w5 (some b) := by rw [← hw5]; exact put8_only k5 (by omega) (.int .i64 f'.asked) (.int .i64 f'.now) (.bool f'.stopped) (.bool f'.told) (.int .u8 f'.num) (.bool f'.m1) (.bool f'.m2) (.bool f'.m3)
  have hF5 : Fb w5 b f' := by rw [← hw5]; exact far8 k1 (by omega) (.int .i64 f'.asked) (.int .i64 f'.now) (.bool f'.stopped) (.bool f'.told) (.int .u8 f'.num) (.bool f'.m1) (.bool f'.m2) (.bool f'.m3)
  rw [hw5]
  have HE := Lib.hid (And.intro hF5 hG5)
  obtain ⟨d0, d1, d2, d3, d4, d5, d6, d7⟩ := rc_cells hR5
  clear hw5 k1 k2 k3 k4 k5 k6 k7 k8 hR5 hG5 hF5 HD2 HD3 HD4 HL HP u0 u1 u2 u3 u4 u5 u6 u7 v0 v1 v2 v3 v4 v5 v6 v7 v8 r0 r1 r2 r3 r4 r5 r6 r7 z0 z1 z2 z3 z4 z5 z6 z7
  go_wp2_with fail
  exact bodyPost_ret (v := .tuple #[.agg #[.int .i64 f'.asked, .int .i64 f'.now, .bool f'.stopped, .bool f'.told, .int .u8 f'.num, .bool f'.m1, .bool f'.m2, .bool f'.m3], .bool true]) (by simp [results, Try.results25, go_sem, d0, d1, d2, d3, d4, d5, d6, d7]) rfl ⟨rfl, HE.out⟩
/-- What is known of the boxes' cells. -/
theorem dk_cells {w0 w : World} {b : Nat} {f r : Fl} {a : Ac} (h : Dk w0 w b f r a) :
    (w.cell? ⟨w0.heap.size, 0, none⟩ = some (.int .i64 r.asked) ∧ w.cell? ⟨w0.heap.size, 1, none⟩ = some (.int .i64 r.now) ∧ w.cell? ⟨w0.heap.size, 2, none⟩ = some (.bool r.stopped) ∧ w.cell? ⟨w0.heap.size, 3, none⟩ = some (.bool r.told) ∧ w.cell? ⟨w0.heap.size, 4, none⟩ = some (.int .u8 r.num) ∧ w.cell? ⟨w0.heap.size, 5, none⟩ = some (.bool r.m1) ∧ w.cell? ⟨w0.heap.size, 6, none⟩ = some (.bool r.m2) ∧ w.cell? ⟨w0.heap.size, 7, none⟩ = some (.bool r.m3)) ∧
    (w.cell? ⟨w0.heap.size + 1, 0, none⟩ = some (.int .i64 a.act) ∧ w.cell? ⟨w0.heap.size + 1, 1, none⟩ = some (.bool a.x.key) ∧ w.cell? ⟨w0.heap.size + 1, 2, none⟩ = some (.int .u8 a.x.tid) ∧ w.cell? ⟨w0.heap.size + 1, 3, none⟩ = some (.bool a.x.sync) ∧ w.cell? ⟨w0.heap.size + 1, 4, none⟩ = some (.bool a.x.drop) ∧ w.cell? ⟨w0.heap.size + 1, 5, none⟩ = some (.bool a.x.has) ∧ w.cell? ⟨w0.heap.size + 1, 6, none⟩ = some (.int .u8 a.x.tl0) ∧ w.cell? ⟨w0.heap.size + 1, 7, none⟩ = some (.bool a.known) ∧ w.cell? ⟨w0.heap.size + 1, 8, none⟩ = some (.int .i64 a.cap)) ∧
    (w.cell? ⟨w0.heap.size + 2, 0, none⟩ = some (.int .i64 0) ∧ w.cell? ⟨w0.heap.size + 2, 1, none⟩ = some (.int .i64 0) ∧ w.cell? ⟨w0.heap.size + 2, 2, none⟩ = some (.bool false) ∧ w.cell? ⟨w0.heap.size + 2, 3, none⟩ = some (.bool false) ∧ w.cell? ⟨w0.heap.size + 2, 4, none⟩ = some (.int .u8 0) ∧ w.cell? ⟨w0.heap.size + 2, 5, none⟩ = some (.bool false) ∧ w.cell? ⟨w0.heap.size + 2, 6, none⟩ = some (.bool false) ∧ w.cell? ⟨w0.heap.size + 2, 7, none⟩ = some (.bool false)) ∧
    (w.frozen? ⟨w0.heap.size + 2, 0, none⟩ = false ∧ w.frozen? ⟨w0.heap.size + 2, 1, none⟩ = false ∧ w.frozen? ⟨w0.heap.size + 2, 2, none⟩ = false ∧ w.frozen? ⟨w0.heap.size + 2, 3, none⟩ = false ∧ w.frozen? ⟨w0.heap.size + 2, 4, none⟩ = false ∧ w.frozen? ⟨w0.heap.size + 2, 5, none⟩ = false ∧ w.frozen? ⟨w0.heap.size + 2, 6, none⟩ = false ∧ w.frozen? ⟨w0.heap.size + 2, 7, none⟩ = false) ∧
    (w.frozen? ⟨w0.heap.size, 0, none⟩ = false ∧ w.frozen? ⟨w0.heap.size, 1, none⟩ = false ∧ w.frozen? ⟨w0.heap.size, 2, none⟩ = false ∧ w.frozen? ⟨w0.heap.size, 3, none⟩ = false ∧ w.frozen? ⟨w0.heap.size, 4, none⟩ = false ∧ w.frozen? ⟨w0.heap.size, 5, none⟩ = false ∧ w.frozen? ⟨w0.heap.size, 6, none⟩ = false ∧ w.frozen? ⟨w0.heap.size, 7, none⟩ = false) ∧ w0.heap.size + 2 < w.heap.size :=
  ⟨rc_cells h.2.1, arr_cells h.2.2.1, rc_cells h.2.2.2.1, ⟨h.2.2.2.1.frozen 0, h.2.2.2.1.frozen 1, h.2.2.2.1.frozen 2, h.2.2.2.1.frozen 3, h.2.2.2.1.frozen 4, h.2.2.2.1.frozen 5, h.2.2.2.1.frozen 6, h.2.2.2.1.frozen 7⟩,
    ⟨h.2.1.frozen 0, h.2.1.frozen 1, h.2.1.frozen 2, h.2.1.frozen 3, h.2.1.frozen 4, h.2.1.frozen 5, h.2.1.frozen 6, h.2.1.frozen 7⟩, h.2.2.2.2.2⟩
theorem dk_put {w0 w : World} {b : Nat} {f r n : Fl} {a : Ac} (h : Dk w0 w b f r a) (hb0 : b < w0.heap.size) :
    Dk w0 ((((((((w.setCell ⟨w0.heap.size, 0, none⟩ (.int .i64 n.asked)).setCell ⟨w0.heap.size, 1, none⟩ (.int .i64 n.now)).setCell ⟨w0.heap.size, 2, none⟩ (.bool n.stopped)).setCell ⟨w0.heap.size, 3, none⟩ (.bool n.told)).setCell ⟨w0.heap.size, 4, none⟩ (.int .u8 n.num)).setCell ⟨w0.heap.size, 5, none⟩ (.bool n.m1)).setCell ⟨w0.heap.size, 6, none⟩ (.bool n.m2)).setCell ⟨w0.heap.size, 7, none⟩ (.bool n.m3)) b f n a := by
  obtain ⟨h1, h2, h3, h4, h5, h6⟩ := h
  exact ⟨far8 h1 (by omega) (.int .i64 n.asked) (.int .i64 n.now) (.bool n.stopped) (.bool n.told) (.int .u8 n.num) (.bool n.m1) (.bool n.m2) (.bool n.m3), put8 h2 (.int .i64 n.asked) (.int .i64 n.now) (.bool n.stopped) (.bool n.told) (.int .u8 n.num) (.bool n.m1) (.bool n.m2) (.bool n.m3), far8 h3 (by omega) (.int .i64 n.asked) (.int .i64 n.now) (.bool n.stopped) (.bool n.told) (.int .u8 n.num) (.bool n.m1) (.bool n.m2) (.bool n.m3), far8 h4 (by omega) (.int .i64 n.asked) (.int .i64 n.now) (.bool n.stopped) (.bool n.told) (.int .u8 n.num) (.bool n.m1) (.bool n.m2) (.bool n.m3), put8_only h5 (Nat.le_refl _) (.int .i64 n.asked) (.int .i64 n.now) (.bool n.stopped) (.bool n.told) (.int .u8 n.num) (.bool n.m1) (.bool n.m2) (.bool n.m3), by simpa [World.setCell] using h6⟩
theorem dk_stop {w0 w : World} {b : Nat} {f r : Fl} {a : Ac} (h : Dk w0 w b f r a) (hb0 : b < w0.heap.size) : Dk w0 (w.setCell ⟨w0.heap.size, 2, none⟩ (.bool true)) b f { r with stopped := true } a := by
  obtain ⟨h1, h2, h3, h4, h5, h6⟩ := h
  exact ⟨Blk.far (p := ⟨w0.heap.size, 2, none⟩) h1 (by intro e; have : b = w0.heap.size := e; omega) _, Blk.set_ h2 2 (.bool true), Blk.far (p := ⟨w0.heap.size, 2, none⟩) h3 (by intro e; have : w0.heap.size + 1 = w0.heap.size := e; omega) _, Blk.far (p := ⟨w0.heap.size, 2, none⟩) h4 (by intro e; have : w0.heap.size + 2 = w0.heap.size := e; omega) _, only_new (p := ⟨w0.heap.size, 2, none⟩) h5 (Nat.le_refl _) _, by simpa [World.setCell] using h6⟩
set_option maxHeartbeats 4000000 in
set_option maxRecDepth 100000 in
theorem does6 (b : Nat) (f : Fl) (a : Ac) (w : World) (h : Fb w b f) (hf : f.ok) (hp : pick a.act 8 = 6) : Calls Try.prog 25 #[P b, .agg f.rc, .agg a.arr] w fun e w' => e = .returned (.tuple #[.agg (f.cap a.cap).rc, .bool true]) ∧ Fb w' b (f.cap a.cap) ∧ w.grownBy w' (some b) := by
  have HD := Lib.hid (dk_start (a := a) h)
  have hl := h.lt
  have HL := Lib.hid (fun W (hW : Fb W b f) => cap_any b f a.cap W hW)
  have HR := Lib.hid (fun W => rcap_any f a.cap W hf)
  have HP := Lib.hid hp
  clear h hf hp
  generalize f.cap a.cap = n at HL HR ⊢
  unfold P at HL ⊢
  simp only [Fl.rc, rc, Ac.arr] at HD HR ⊢
  go_enter Try.func25, Try.ntmps25
  go_wp2_with fail
  refine (pick_lit HP.out _ (by omega)).mono ?_
  rintro e w' ⟨rfl, rfl⟩
  go_wp2_with fail
  obtain ⟨w1, hw1⟩ : ∃ w1, (((w.alloc (.cells #[.int .i64 f.asked, .int .i64 f.now, .bool f.stopped, .bool f.told, .int .u8 f.num, .bool f.m1, .bool f.m2, .bool f.m3] 46)).alloc (.cells #[.int .i64 a.act, .bool a.x.key, .int .u8 a.x.tid, .bool a.x.sync, .bool a.x.drop, .bool a.x.has, .int .u8 a.x.tl0, .bool a.known, .int .i64 a.cap] 35)).alloc (.cells #[.int .i64 0, .int .i64 0, .bool false, .bool false, .int .u8 0, .bool false, .bool false, .bool false] 46)) = w1 := ⟨_, rfl⟩
  rw [hw1] at HD
  rw [hw1]
  clear hw1
  refine (HL.out w1 HD.out.1).mono ?_
  rintro e w2 ⟨rfl, hf2, hg2⟩
  have HD2 := Lib.hid (dk_only HD.out hl hf2 hg2)
  clear hf2 hg2 HD
  obtain ⟨⟨pc0, pc1, pc2, pc3, pc4, pc5, pc6, pc7⟩, ⟨pa0, pa1, pa2, pa3, pa4, pa5, pa6, pa7, pa8⟩, ⟨pr0, pr1, pr2, pr3, pr4, pr5, pr6, pr7⟩, ⟨pf0, pf1, pf2, pf3, pf4, pf5, pf6, pf7⟩, ⟨pg0, pg1, pg2, pg3, pg4, pg5, pg6, pg7⟩, pz⟩ := dk_cells HD2.out
  go_wp2_with fail
  refine (HR.out w2).mono ?_
  rintro e w3 ⟨rfl, hb3⟩
  have HD3 := Lib.hid (dk_below HD2.out hb3)
  clear hb3 HD2
  clear pc0 pc1 pc2 pc3 pc4 pc5 pc6 pc7 pa0 pa1 pa2 pa3 pa4 pa5 pa6 pa7 pa8 pr0 pr1 pr2 pr3 pr4 pr5 pr6 pr7 pf0 pf1 pf2 pf3 pf4 pf5 pf6 pf7 pg0 pg1 pg2 pg3 pg4 pg5 pg6 pg7 pz
  obtain ⟨⟨qc0, qc1, qc2, qc3, qc4, qc5, qc6, qc7⟩, ⟨qa0, qa1, qa2, qa3, qa4, qa5, qa6, qa7, qa8⟩, ⟨qr0, qr1, qr2, qr3, qr4, qr5, qr6, qr7⟩, ⟨qf0, qf1, qf2, qf3, qf4, qf5, qf6, qf7⟩, ⟨qg0, qg1, qg2, qg3, qg4, qg5, qg6, qg7⟩, qz⟩ := dk_cells HD3.out
  go_wp2_with fail
  obtain ⟨w6, hw6⟩ : ∃ w6, ((((((((w3.setCell ⟨w.heap.size, 0, none⟩ (.int .i64 n.asked)).setCell ⟨w.heap.size, 1, none⟩ (.int .i64 n.now)).setCell ⟨w.heap.size, 2, none⟩ (.bool n.stopped)).setCell ⟨w.heap.size, 3, none⟩ (.bool n.told)).setCell ⟨w.heap.size, 4, none⟩ (.int .u8 n.num)).setCell ⟨w.heap.size, 5, none⟩ (.bool n.m1)).setCell ⟨w.heap.size, 6, none⟩ (.bool n.m2)).setCell ⟨w.heap.size, 7, none⟩ (.bool n.m3)) = w6 := ⟨_, rfl⟩
  have hD6 : Dk w w6 b n n a := by rw [← hw6]; exact dk_put HD3.out hl
  rw [hw6]
  have HD6 := Lib.hid hD6
  clear hw6 hD6 HD3 HL HR HP
  clear qc0 qc1 qc2 qc3 qc4 qc5 qc6 qc7 qa0 qa1 qa2 qa3 qa4 qa5 qa6 qa7 qa8 qr0 qr1 qr2 qr3 qr4 qr5 qr6 qr7 qf0 qf1 qf2 qf3 qf4 qf5 qf6 qf7 qg0 qg1 qg2 qg3 qg4 qg5 qg6 qg7 qz
  obtain ⟨⟨sc0, sc1, sc2, sc3, sc4, sc5, sc6, sc7⟩, ⟨sa0, sa1, sa2, sa3, sa4, sa5, sa6, sa7, sa8⟩, ⟨sr0, sr1, sr2, sr3, sr4, sr5, sr6, sr7⟩, ⟨sf0, sf1, sf2, sf3, sf4, sf5, sf6, sf7⟩, ⟨sg0, sg1, sg2, sg3, sg4, sg5, sg6, sg7⟩, sz⟩ := dk_cells HD6.out
  go_wp2_with fail
  have ne1 : ¬ w.heap.size = w.heap.size + 1 + 1 := by omega
  have ne2 : ¬ w.heap.size + 1 + 1 = w.heap.size := by omega
  go_region_held3 (fun w' => w'.cell? ⟨w.heap.size, 0, none⟩ = some (.int .i64 n.asked) ∧ w'.cell? ⟨w.heap.size, 1, none⟩ = some (.int .i64 n.now) ∧ w'.cell? ⟨w.heap.size, 2, none⟩ = some (.bool n.stopped) ∧ w'.cell? ⟨w.heap.size, 3, none⟩ = some (.bool n.told) ∧ w'.cell? ⟨w.heap.size, 4, none⟩ = some (.int .u8 n.num) ∧ w'.cell? ⟨w.heap.size, 5, none⟩ = some (.bool n.m1) ∧ w'.cell? ⟨w.heap.size, 6, none⟩ = some (.bool n.m2) ∧ w'.cell? ⟨w.heap.size, 7, none⟩ = some (.bool n.m3)) (go_keep)
    (first
      | (go_at_call 23; refine (is_any b n _ (by first | exact HD6.out.1 | exact (dk_drew HD6.out).1)).mono ?_; rintro e w4 ⟨rfl, hb4⟩; have HD4 := Lib.hid (dk_below (by first | exact HD6.out | exact dk_drew HD6.out) hb4); clear hb4; obtain ⟨⟨tc0, tc1, tc2, tc3, tc4, tc5, tc6, tc7⟩, ⟨ta0, ta1, ta2, ta3, ta4, ta5, ta6, ta7, ta8⟩, ⟨tr0, tr1, tr2, tr3, tr4, tr5, tr6, tr7⟩, ⟨tf0, tf1, tf2, tf3, tf4, tf5, tf6, tf7⟩, ⟨tg0, tg1, tg2, tg3, tg4, tg5, tg6, tg7⟩, tz⟩ := dk_cells HD4.out))
  obtain ⟨w5, hw5⟩ : ∃ w5, ((((((((w4.setCell ⟨w.heap.size + 1 + 1, 0, none⟩ (.int .i64 n.asked)).setCell ⟨w.heap.size + 1 + 1, 1, none⟩ (.int .i64 n.now)).setCell ⟨w.heap.size + 1 + 1, 2, none⟩ (.bool n.stopped)).setCell ⟨w.heap.size + 1 + 1, 3, none⟩ (.bool n.told)).setCell ⟨w.heap.size + 1 + 1, 4, none⟩ (.int .u8 n.num)).setCell ⟨w.heap.size + 1 + 1, 5, none⟩ (.bool n.m1)).setCell ⟨w.heap.size + 1 + 1, 6, none⟩ (.bool n.m2)).setCell ⟨w.heap.size + 1 + 1, 7, none⟩ (.bool n.m3)) = w5 := ⟨_, rfl⟩
  obtain ⟨k1, k2, k3, k4, k5, k6⟩ := HD4.out
  have hR5 : Blk w5 (w.heap.size + 2) 46 n.rc := by rw [← hw5]; exact put8 k4 (.int .i64 n.asked) (.int .i64 n.now) (.bool n.stopped) (.bool n.told) (.int .u8 n.num) (.bool n.m1) (.bool n.m2) (.bool n.m3)
  have hG5 : w.grownBy w5 (some b) := by rw [← hw5]; exact put8_only k5 (by omega) (.int .i64 n.asked) (.int .i64 n.now) (.bool n.stopped) (.bool n.told) (.int .u8 n.num) (.bool n.m1) (.bool n.m2) (.bool n.m3)
  have hF5 : Fb w5 b n := by rw [← hw5]; exact far8 k1 (by omega) (.int .i64 n.asked) (.int .i64 n.now) (.bool n.stopped) (.bool n.told) (.int .u8 n.num) (.bool n.m1) (.bool n.m2) (.bool n.m3)
  rw [hw5]
  have HE := Lib.hid (And.intro hF5 hG5)
  obtain ⟨d0, d1, d2, d3, d4, d5, d6, d7⟩ := rc_cells hR5
  clear hw5 k1 k2 k3 k4 k5 k6 hR5 hG5 hF5 HD6 HD4
  clear tc0 tc1 tc2 tc3 tc4 tc5 tc6 tc7 ta0 ta1 ta2 ta3 ta4 ta5 ta6 ta7 ta8 tr0 tr1 tr2 tr3 tr4 tr5 tr6 tr7 tf0 tf1 tf2 tf3 tf4 tf5 tf6 tf7 tg0 tg1 tg2 tg3 tg4 tg5 tg6 tg7 tz
  go_wp2_with fail
  exact bodyPost_ret (v := .tuple #[.agg #[.int .i64 n.asked, .int .i64 n.now, .bool n.stopped, .bool n.told, .int .u8 n.num, .bool n.m1, .bool n.m2, .bool n.m3], .bool true]) (by simp [results, Try.results25, go_sem, d0, d1, d2, d3, d4, d5, d6, d7]) rfl ⟨rfl, HE.out⟩
set_option maxHeartbeats 4000000 in
set_option maxRecDepth 100000 in
theorem does7 (b : Nat) (f : Fl) (a : Ac) (w : World) (h : Fb w b f) (hp : pick a.act 8 = 7) : Calls Try.prog 25 #[P b, .agg f.rc, .agg a.arr] w fun e w' => e = .returned (.tuple #[.agg ({ f with stopped := true }).rc, .bool true]) ∧ Fb w' b ({ f with stopped := true }) ∧ w.grownBy w' (some b) := by
  have HD := Lib.hid (dk_start (a := a) h)
  have hl := h.lt
  have HL := Lib.hid (fun W (hW : Fb W b f) => halt_any b f W hW)
  have HP := Lib.hid hp
  clear h hp
  obtain ⟨n, hn⟩ : ∃ n : Fl, { f with stopped := true } = n := ⟨_, rfl⟩
  rw [hn] at HL ⊢
  have HN := Lib.hid hn
  clear hn
  unfold P at HL ⊢
  simp only [Fl.rc, rc, Ac.arr] at HD ⊢
  go_enter Try.func25, Try.ntmps25
  go_wp2_with fail
  refine (pick_lit HP.out _ (by omega)).mono ?_
  rintro e w' ⟨rfl, rfl⟩
  go_wp2_with fail
  obtain ⟨w1, hw1⟩ : ∃ w1, (((w.alloc (.cells #[.int .i64 f.asked, .int .i64 f.now, .bool f.stopped, .bool f.told, .int .u8 f.num, .bool f.m1, .bool f.m2, .bool f.m3] 46)).alloc (.cells #[.int .i64 a.act, .bool a.x.key, .int .u8 a.x.tid, .bool a.x.sync, .bool a.x.drop, .bool a.x.has, .int .u8 a.x.tl0, .bool a.known, .int .i64 a.cap] 35)).alloc (.cells #[.int .i64 0, .int .i64 0, .bool false, .bool false, .int .u8 0, .bool false, .bool false, .bool false] 46)) = w1 := ⟨_, rfl⟩
  rw [hw1] at HD
  rw [hw1]
  clear hw1
  refine (HL.out w1 HD.out.1).mono ?_
  rintro e w2 ⟨rfl, hf2, hg2⟩
  have HD2 := Lib.hid (dk_only HD.out hl hf2 hg2)
  clear hf2 hg2 HD
  obtain ⟨⟨pc0, pc1, pc2, pc3, pc4, pc5, pc6, pc7⟩, ⟨pa0, pa1, pa2, pa3, pa4, pa5, pa6, pa7, pa8⟩, ⟨pr0, pr1, pr2, pr3, pr4, pr5, pr6, pr7⟩, ⟨pf0, pf1, pf2, pf3, pf4, pf5, pf6, pf7⟩, ⟨pg0, pg1, pg2, pg3, pg4, pg5, pg6, pg7⟩, pz⟩ := dk_cells HD2.out
  go_wp2_with fail
  obtain ⟨w6, hw6⟩ : ∃ w6, w2.setCell ⟨w.heap.size, 2, none⟩ (.bool true) = w6 := ⟨_, rfl⟩
  have hD6 : Dk w w6 b n n a := by
    have h6 := dk_stop HD2.out hl
    rw [hw6, HN.out] at h6
    exact h6
  rw [hw6]
  have HD6 := Lib.hid hD6
  clear hw6 hD6 HD2 HL HP HN
  clear pc0 pc1 pc2 pc3 pc4 pc5 pc6 pc7 pa0 pa1 pa2 pa3 pa4 pa5 pa6 pa7 pa8 pr0 pr1 pr2 pr3 pr4 pr5 pr6 pr7 pf0 pf1 pf2 pf3 pf4 pf5 pf6 pf7 pg0 pg1 pg2 pg3 pg4 pg5 pg6 pg7 pz
  obtain ⟨⟨sc0, sc1, sc2, sc3, sc4, sc5, sc6, sc7⟩, ⟨sa0, sa1, sa2, sa3, sa4, sa5, sa6, sa7, sa8⟩, ⟨sr0, sr1, sr2, sr3, sr4, sr5, sr6, sr7⟩, ⟨sf0, sf1, sf2, sf3, sf4, sf5, sf6, sf7⟩, ⟨sg0, sg1, sg2, sg3, sg4, sg5, sg6, sg7⟩, sz⟩ := dk_cells HD6.out
  go_wp2_with fail
  have ne1 : ¬ w.heap.size = w.heap.size + 1 + 1 := by omega
  have ne2 : ¬ w.heap.size + 1 + 1 = w.heap.size := by omega
  go_region_held3 (fun w' => w'.cell? ⟨w.heap.size, 0, none⟩ = some (.int .i64 n.asked) ∧ w'.cell? ⟨w.heap.size, 1, none⟩ = some (.int .i64 n.now) ∧ w'.cell? ⟨w.heap.size, 2, none⟩ = some (.bool n.stopped) ∧ w'.cell? ⟨w.heap.size, 3, none⟩ = some (.bool n.told) ∧ w'.cell? ⟨w.heap.size, 4, none⟩ = some (.int .u8 n.num) ∧ w'.cell? ⟨w.heap.size, 5, none⟩ = some (.bool n.m1) ∧ w'.cell? ⟨w.heap.size, 6, none⟩ = some (.bool n.m2) ∧ w'.cell? ⟨w.heap.size, 7, none⟩ = some (.bool n.m3)) (go_keep)
    (first
      | (go_at_call 23; refine (is_any b n _ (by first | exact HD6.out.1 | exact (dk_drew HD6.out).1)).mono ?_; rintro e w4 ⟨rfl, hb4⟩; have HD4 := Lib.hid (dk_below (by first | exact HD6.out | exact dk_drew HD6.out) hb4); clear hb4; obtain ⟨⟨tc0, tc1, tc2, tc3, tc4, tc5, tc6, tc7⟩, ⟨ta0, ta1, ta2, ta3, ta4, ta5, ta6, ta7, ta8⟩, ⟨tr0, tr1, tr2, tr3, tr4, tr5, tr6, tr7⟩, ⟨tf0, tf1, tf2, tf3, tf4, tf5, tf6, tf7⟩, ⟨tg0, tg1, tg2, tg3, tg4, tg5, tg6, tg7⟩, tz⟩ := dk_cells HD4.out))
  obtain ⟨w5, hw5⟩ : ∃ w5, ((((((((w4.setCell ⟨w.heap.size + 1 + 1, 0, none⟩ (.int .i64 n.asked)).setCell ⟨w.heap.size + 1 + 1, 1, none⟩ (.int .i64 n.now)).setCell ⟨w.heap.size + 1 + 1, 2, none⟩ (.bool n.stopped)).setCell ⟨w.heap.size + 1 + 1, 3, none⟩ (.bool n.told)).setCell ⟨w.heap.size + 1 + 1, 4, none⟩ (.int .u8 n.num)).setCell ⟨w.heap.size + 1 + 1, 5, none⟩ (.bool n.m1)).setCell ⟨w.heap.size + 1 + 1, 6, none⟩ (.bool n.m2)).setCell ⟨w.heap.size + 1 + 1, 7, none⟩ (.bool n.m3)) = w5 := ⟨_, rfl⟩
  obtain ⟨k1, k2, k3, k4, k5, k6⟩ := HD4.out
  have hR5 : Blk w5 (w.heap.size + 2) 46 n.rc := by rw [← hw5]; exact put8 k4 (.int .i64 n.asked) (.int .i64 n.now) (.bool n.stopped) (.bool n.told) (.int .u8 n.num) (.bool n.m1) (.bool n.m2) (.bool n.m3)
  have hG5 : w.grownBy w5 (some b) := by rw [← hw5]; exact put8_only k5 (by omega) (.int .i64 n.asked) (.int .i64 n.now) (.bool n.stopped) (.bool n.told) (.int .u8 n.num) (.bool n.m1) (.bool n.m2) (.bool n.m3)
  have hF5 : Fb w5 b n := by rw [← hw5]; exact far8 k1 (by omega) (.int .i64 n.asked) (.int .i64 n.now) (.bool n.stopped) (.bool n.told) (.int .u8 n.num) (.bool n.m1) (.bool n.m2) (.bool n.m3)
  rw [hw5]
  have HE := Lib.hid (And.intro hF5 hG5)
  obtain ⟨d0, d1, d2, d3, d4, d5, d6, d7⟩ := rc_cells hR5
  clear hw5 k1 k2 k3 k4 k5 k6 hR5 hG5 hF5 HD6 HD4
  clear tc0 tc1 tc2 tc3 tc4 tc5 tc6 tc7 ta0 ta1 ta2 ta3 ta4 ta5 ta6 ta7 ta8 tr0 tr1 tr2 tr3 tr4 tr5 tr6 tr7 tf0 tf1 tf2 tf3 tf4 tf5 tf6 tf7 tg0 tg1 tg2 tg3 tg4 tg5 tg6 tg7 tz
  go_wp2_with fail
  exact bodyPost_ret (v := .tuple #[.agg #[.int .i64 n.asked, .int .i64 n.now, .bool n.stopped, .bool n.told, .int .u8 n.num, .bool n.m1, .bool n.m2, .bool n.m3], .bool true]) (by simp [results, Try.results25, go_sem, d0, d1, d2, d3, d4, d5, d6, d7]) rfl ⟨rfl, HE.out⟩
end Go.Proofs.Ytnodnngakopooaa
