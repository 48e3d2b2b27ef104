/- The examples of the chapter, and rows of acts by numbers: the walk of the law LayerKnown. Conditions: none. -/
import Derived.Test.YtnodnngakopooaaLDecodes
import Derived.Test.YtnodnngakopooaaQPlays
import Derived.Test.YtnodnngakopooaaLRises
import Derived.Deep.CutBlock
namespace Go.Proofs.Ytnodnngakopooaa
open Go.RowKit Go.Shelf

/-- The cells of acts. -/
def acells : List Ac → List Value
  | [] => []
  | a :: l => a.cells ++ acells l
theorem acells_append (l m : List Ac) : acells (l ++ m) = acells l ++ acells m := by
  induction l with
  | nil => rfl
  | cons a l ih => show a.cells ++ acells (l ++ m) = _; rw [ih, ← List.append_assoc]; rfl
theorem acells_length (l : List Ac) : (acells l).length = l.length * 9 := by
  induction l with
  | nil => rfl
  | cons a l ih => show (a.cells ++ acells l).length = _; rw [List.length_append, ih, List.length_cons]; show 9 + _ = _; omega
theorem acells_at (l : List Ac) (j : Nat) (a : Ac) (h : l[j]? = some a) (c : Nat) (hc : c < 9) : (acells l)[j * 9 + c]? = a.cells[c]? := by
  induction l generalizing j with
  | nil => simp at h
  | cons q l ih =>
    have hl : q.cells.length = 9 := rfl
    show (q.cells ++ acells l)[j * 9 + c]? = _
    cases j with
    | zero =>
      have e : q = a := by simpa using h
      subst e
      rw [List.getElem?_append_left (by rw [hl]; omega), Nat.zero_mul, Nat.zero_add]
    | succ j =>
      have h' : l[j]? = some a := by simpa using h
      rw [List.getElem?_append_right (by rw [hl]; omega), hl, show (j + 1) * 9 + c - 9 = j * 9 + c by omega]
      exact ih j h'
theorem info35 : (Try.prog.info? 35).map (fun i => (i.zero, i.size, i.bytes)) = some (some (.agg #[.int .i64 0, .bool false, .int .u8 0, .bool false, .bool false, .bool false, .int .u8 0, .bool false, .int .i64 0]), 9, 24) := by kernel_rfl
/-- A row of acts of the call's own. -/
def Arow (w0 w : World) (v : Value) (l : List Ac) : Prop := w.ownsRow w0.heap.size 35 9 v l.length (acells l) ∧ ∀ a ∈ l, a.ok
theorem arow_acts {w0 w : World} {v : Value} {l : List Ac} (h : Arow w0 w v l) (hl : l.length ≤ 200) : IsActs w v := by
  obtain ⟨ho, hok⟩ := h
  have ho' := ho
  rcases ho.2 with ⟨rfl, h0⟩ | ⟨g, cap, cur, rfl, hb, hg, hn, hm, -⟩
  · have : l = [] := List.eq_nil_of_length_eq_zero h0
    subst this
    exact ⟨none, 0, [], rfl, by simp, by simp, by simp, fun h => absurd h (by simp)⟩
  · refine ⟨_, cap, l, rfl, hn, hm, by unfold maxLen; omega, fun _ => ⟨_, rfl, (Array.getElem?_eq_some_iff.1 hg).1, fun j a hj => ⟨hok a (List.mem_of_getElem? hj), fun c hc => ?_⟩⟩⟩
    have hat := acells_at l j a hj c hc
    have hlc : c < a.cells.length := hc
    rw [List.getElem?_eq_getElem hlc] at hat ⊢
    exact World.ownsRow.cells ho' rfl _ _ hat
theorem arow_one {w0 w : World} (a : Ac) (ha : a.ok) (hb : w0.heap.size ≤ w.heap.size) : Arow w0 (w.alloc (.cells a.cells.toArray 35)) (.slice (some ⟨w.heap.size, 0, none⟩) 1 1) [a] := by
  refine ⟨⟨rfl, .inr ⟨w.heap.size, 1, a.cells.toArray, rfl, hb, heap_alloc_new w _, Nat.le_refl _, by unfold maxLen; omega, rfl, rfl⟩⟩, fun b hb => ?_⟩
  simp only [List.mem_singleton] at hb
  subst hb; exact ha
theorem arow_lit {w0 w : World} (l : List Ac) (hl : ∀ a ∈ l, a.ok) (hm : l.length ≤ maxLen) (hb : w0.heap.size ≤ w.heap.size) : Arow w0 (w.alloc (.cells (acells l).toArray 35)) (.slice (some ⟨w.heap.size, 0, none⟩) l.length l.length) l := by
  refine ⟨⟨acells_length l, .inr ⟨w.heap.size, l.length, (acells l).toArray, rfl, hb, heap_alloc_new w _, Nat.le_refl _, hm, by simp [acells_length], ?_⟩⟩, hl⟩
  rw [← acells_length]
  simp
theorem arow_below {w0 w w' : World} {v : Value} {l : List Ac} (h : Arow w0 w v l) (hb : Below w.heap.size w w') : Arow w0 w' v l := by
  refine ⟨World.ownsRow.kept h.1 (only_of_below hb none) ?_, h.2⟩
  cases v.ownBlock <;> simp
theorem wrap_small (x : Int) (h0 : -100000 ≤ x) (h1 : x ≤ 100000) : IntKind.i64.wrap x = x := IntWalk.i64_in x (by omega)
/-- A frame's facts in a box. -/
def Xb (w : World) (g : Nat) (tid : Int) (b1 b2 b3 : Bool) (tl : Int) : Prop := Blk w g 33 #[.bool false, .int .u8 tid, .bool b1, .bool b2, .bool b3, .int .u8 tl]
theorem xb_cells {w : World} {g : Nat} {tid tl : Int} {b1 b2 b3 : Bool} (h : Xb w g tid b1 b2 b3 tl) :
    (w.cell? ⟨g, 0, none⟩ = some (.bool false) ∧ w.cell? ⟨g, 1, none⟩ = some (.int .u8 tid) ∧ w.cell? ⟨g, 2, none⟩ = some (.bool b1) ∧ w.cell? ⟨g, 3, none⟩ = some (.bool b2) ∧ w.cell? ⟨g, 4, none⟩ = some (.bool b3) ∧ w.cell? ⟨g, 5, none⟩ = some (.int .u8 tl)) ∧ w.frozen? ⟨g, 5, none⟩ = false ∧ g < w.heap.size := by
  unfold Xb at h
  exact ⟨⟨h.cell 0, h.cell 1, h.cell 2, h.cell 3, h.cell 4, h.cell 5⟩, h.frozen 5, h.lt⟩
theorem xb_set {w : World} {g : Nat} {tid tl : Int} {b1 b2 b3 : Bool} (h : Xb w g tid b1 b2 b3 tl) (t : Int) : Xb (w.setCell ⟨g, 5, none⟩ (.int .u8 t)) g tid b1 b2 b3 t := Blk.set_ h 5 (.int .u8 t)
/-- What is kept within a round. -/
def Kr (w0 w : World) (v : Value) (l : List Ac) (g : Nat) : Prop := Arow w0 w v l ∧ Below w0.heap.size w0 w ∧ w0.heap.size ≤ g ∧ (∀ k, v.ownBlock = some k → k < g) ∧ g < w.heap.size
theorem kr_below {w0 w w' : World} {v : Value} {l : List Ac} {g : Nat} (h : Kr w0 w v l g) (hb : Below w.heap.size w w') : Kr w0 w' v l g := ⟨arow_below h.1 hb, h.2.1.trans (hb.mono h.2.1.size), h.2.2.1, h.2.2.2.1, Nat.lt_of_lt_of_le h.2.2.2.2 hb.size⟩
theorem kr_set {w0 w : World} {v : Value} {l : List Ac} {g : Nat} (h : Kr w0 w v l g) (u : Value) : Kr w0 (w.setCell ⟨g, 5, none⟩ u) v l g := by
  obtain ⟨⟨h1, h0⟩, h2, h3, h4, h5⟩ := h
  have hg : w.grownBy (w.setCell ⟨g, 5, none⟩ u) (some g) := only_setCell (p := ⟨g, 5, none⟩) (World.grownBy.refl w _) (.inl rfl) u
  refine ⟨⟨World.ownsRow.kept h1 hg ?_, h0⟩, Below.setCell (p := ⟨g, 5, none⟩) h2 h3 u, h3, h4, by simpa [World.setCell] using h5⟩
  cases hv : v.ownBlock with
  | none => exact .inl rfl
  | some j => refine .inr fun e => ?_; have := h4 j hv; have := Option.some.inj e; omega
theorem news_two (w : World) (o : Obj) (cs : Array Value) (t : TypeId) : ∀ (j : Nat) (u : Value), cs.toList[j]? = some u → ((w.alloc o).alloc (.cells cs t)).drew.cell? ((⟨w.heap.size + 1, 0, none⟩ : Addr).add j) = some u :=
  World.news_of_block (w := ((w.alloc o).alloc (.cells cs t)).drew) (cs := cs) (t := t) (fr := (0, 0)) (by
    have h := heap_alloc_new (w.alloc o) (.cells cs t)
    rw [World.size_alloc] at h
    exact h)
theorem rest_two {w0 w w' : World} {v : Value} {l : List Ac} {g : Nat} (h : Kr w0 w v l g) (o p : Obj) (hg : ((w.alloc o).alloc p).drew.grownBy w' v.ownBlock) : Below w0.heap.size w0 w' := by
  have hb : Below w0.heap.size w0 ((w.alloc o).alloc p).drew := ((h.2.1.alloc h.2.1.size _).alloc (by simp; have := h.2.1.size; omega) _).drew
  refine hb.grown hg (by have := hb.size; exact this) fun j e => ?_
  exact (World.ownsRow.lt h.1.1 j e).1
theorem nil_acts {w : World} : IsActs w (.slice none 0 0) := ⟨none, 0, [], rfl, by simp, by simp, by simp, fun h => absurd h (by simp)⟩
def fiveL : List Ac := [⟨0, ⟨false, 0, false, false, false, 0⟩, false, 0⟩, ⟨5, ⟨false, 0, false, false, false, 0⟩, false, 0⟩, ⟨6, ⟨false, 0, false, false, false, 0⟩, false, 9⟩, ⟨0, ⟨true, 0, false, false, false, 0⟩, false, 0⟩, ⟨0, ⟨false, 255, false, false, false, 0⟩, false, 0⟩]
theorem five_ok : ∀ a ∈ fiveL, a.ok := by
  intro a ha
  simp only [fiveL, List.mem_cons, List.not_mem_nil, or_false] at ha
  rcases ha with rfl | rfl | rfl | rfl | rfl
  all_goals exact ⟨⟨⟨by simp, by simp⟩, by simp, by simp⟩, rfl, rfl⟩
theorem five_acts (w : World) : IsActs (w.alloc (.cells (acells fiveL).toArray 35)) (.slice (some ⟨w.heap.size, 0, none⟩) 5 5) := arow_acts (w0 := w) (l := fiveL) (arow_lit fiveL five_ok (by simp [fiveL, maxLen]) (Nat.le_refl _)) (by simp [fiveL])
theorem i64_small (x : Int) (h0 : -100000 ≤ x) (h1 : x ≤ 100000) : (Lit.int .i64 x).wf = true := by
  simp only [Lit.wf, Bool.and_eq_true, decide_eq_true_eq]
  have h1 : IntKind.i64.min = -9223372036854775808 := rfl
  have h2 : IntKind.i64.max = 9223372036854775807 := rfl
  omega
theorem rest_one {w0 w w' : World} {v : Value} {l : List Ac} (h : Arow w0 w v l) (hb : Below w0.heap.size w0 w) (o : Obj) (hg : (w.alloc o).grownBy w' v.ownBlock) : Below w0.heap.size w0 w' := by
  have hb' : Below w0.heap.size w0 (w.alloc o) := hb.alloc hb.size _
  exact hb'.grown hg hb'.size fun j e => (World.ownsRow.lt h.1 j e).1
theorem arow_snoc {w0 w : World} {v : Value} {l : List Ac} {a : Ac} (hl : ∀ b ∈ l, b.ok) (ha : a.ok) (h : w.ownsRow w0.heap.size 35 9 v (l.length + 1) (acells l ++ a.cells)) : Arow w0 w v (l ++ [a]) := by
  refine ⟨?_, fun b hb => ?_⟩
  · rw [acells_append, List.length_append, show acells [a] = a.cells from List.append_nil _]; exact h
  · rcases List.mem_append.1 hb with hb | hb
    · exact hl b hb
    · rw [List.mem_singleton.1 hb]; exact ha
theorem arow_two {w0 w : World} {v : Value} {l : List Ac} {a b : Ac} (hl : ∀ b ∈ l, b.ok) (ha : a.ok) (hb : b.ok) (h : w.ownsRow w0.heap.size 35 9 v (l.length + 2) (acells l ++ (a.cells ++ b.cells))) : Arow w0 w v (l ++ [a, b]) := by
  refine ⟨?_, fun c hc => ?_⟩
  · rw [acells_append, List.length_append, show acells [a, b] = a.cells ++ b.cells from by show a.cells ++ (b.cells ++ []) = _; rw [List.append_nil]]; exact h
  · rcases List.mem_append.1 hc with hc | hc
    · exact hl c hc
    · rcases List.mem_cons.1 hc with rfl | hc
      · exact ha
      · rw [List.mem_singleton.1 hc]; exact hb
theorem tab1 (j : Nat) (h : j < 11) : ∃ v : Int, 0 ≤ v ∧ v ≤ 4 ∧ ∀ W : World, (W.alloc (.cells #[.int .i64 0, .int .i64 2, .int .i64 1, .int .i64 2, .int .i64 0, .int .i64 3, .int .i64 1, .int .i64 3, .int .i64 0, .int .i64 1, .int .i64 4] 3)).cell? ⟨W.heap.size, j, none⟩ = some (.int .i64 v) := by
  rcases (show j = 0 ∨ j = 1 ∨ j = 2 ∨ j = 3 ∨ j = 4 ∨ j = 5 ∨ j = 6 ∨ j = 7 ∨ j = 8 ∨ j = 9 ∨ j = 10 by omega) with rfl | rfl | rfl | rfl | rfl | rfl | rfl | rfl | rfl | rfl | rfl
  all_goals exact ⟨_, by decide, by decide, fun W => (Blk.new W 3 #[.int .i64 0, .int .i64 2, .int .i64 1, .int .i64 2, .int .i64 0, .int .i64 3, .int .i64 1, .int .i64 3, .int .i64 0, .int .i64 1, .int .i64 4]).cell _⟩
theorem tab2 (j : Nat) (h : j < 10) : ∃ v : Int, 0 ≤ v ∧ v ≤ 6 ∧ ∀ W : World, (W.alloc (.cells #[.int .i64 0, .int .i64 1, .int .i64 2, .int .i64 3, .int .i64 0, .int .i64 1, .int .i64 2, .int .i64 5, .int .i64 6, .int .i64 0] 3)).cell? ⟨W.heap.size, j, none⟩ = some (.int .i64 v) := by
  rcases (show j = 0 ∨ j = 1 ∨ j = 2 ∨ j = 3 ∨ j = 4 ∨ j = 5 ∨ j = 6 ∨ j = 7 ∨ j = 8 ∨ j = 9 by omega) with rfl | rfl | rfl | rfl | rfl | rfl | rfl | rfl | rfl | rfl
  all_goals exact ⟨_, by decide, by decide, fun W => (Blk.new W 3 #[.int .i64 0, .int .i64 1, .int .i64 2, .int .i64 3, .int .i64 0, .int .i64 1, .int .i64 2, .int .i64 5, .int .i64 6, .int .i64 0]).cell _⟩
set_option maxHeartbeats 8000000 in
set_option maxRecDepth 100000 in
theorem known_any (w : World) : Calls Try.prog 7 #[] w fun e w' => e = .returned (.bool true) ∧ Below w.heap.size w w' := by
  obtain ⟨j0, hi, hz0, hz1, hz2⟩ := info_parts info35
  go_enter Try.func7, Try.ntmps7
  go_wp2_with fail
  go_loopw [1] (fun v wr => ∃ n : Nat, v = .int .i64 n ∧ n ≤ 400 ∧ Below w.heap.size w wr) (fun v _ => 400 - (intOf v).toNat)
  case atStart => exact ⟨0, rfl, by omega, Below.refl _ _⟩
  case round =>
    obtain ⟨n, rfl, hn, hb⟩ := hrel
    have HB := Lib.hid hb
    have hsz := hb.size
    clear hb
    by_cases hlt : n < 400
    · have hnn : (n : Int) < 400 := by omega
      have n0 : (0 : Int) ≤ (n : Int) := by omega
      obtain ⟨wo, rfl⟩ : ∃ wo : World, wo = wr := ⟨_, rfl⟩
      go_wp2_with fail
      go_loopw [2, 3, 4, 5] (fun v2 v3 v4 v5 w2 => ∃ (i k : Nat) (tl0 : Int) (l : List Ac), v5 = .int .i64 i ∧ v3 = .int .i64 k ∧ v4 = .int .u8 tl0 ∧ i ≤ 26 ∧ k ≤ 10006 ∧ (0 ≤ tl0 ∧ tl0 ≤ 255) ∧ l.length ≤ 1 + 3 * i ∧ Arow w w2 v2 l ∧ Below w.heap.size w w2) (fun _ _ _ v5 _ => 26 - (intOf v5).toNat)
      case atStart =>
        exact ⟨0, n, _, [⟨0, ⟨true, 0, false, false, decide ((0 : Int) < n % 3), (250 + (n : Int) % 9) % 256⟩, false, 0⟩], rfl, rfl, rfl, by omega, by omega, by omega, by simp,
          arow_one ⟨0, ⟨true, 0, false, false, decide ((0 : Int) < n % 3), (250 + (n : Int) % 9) % 256⟩, false, 0⟩ ⟨⟨⟨by simp, by simp⟩, by show 0 ≤ (250 + (n : Int) % 9) % 256; omega, by show (250 + (n : Int) % 9) % 256 ≤ 255; omega⟩, rfl, rfl⟩ hsz, HB.out.alloc hsz _⟩
      case round =>
        rename_i w3
        obtain ⟨i, k, tl0, l, rfl, rfl, rfl, hi26, hk, ⟨tl1, tl2⟩, hll, hrow, hb⟩ := hrel
        have HB2 := Lib.hid hb
        have HR := Lib.hid hrow
        have hsz2 := hb.size
        clear hb hrow
        by_cases hlt2 : i < 26
        · have hii : (i : Int) < 26 := by omega
          have i0' : (0 : Int) ≤ (i : Int) := by omega
          have k0 : (0 : Int) ≤ (k : Int) := by omega
          have k1 : (k : Int) ≤ 10006 := by omega
          obtain ⟨tv, tv0, tv4, htv⟩ := tab1 ((k + i) % 11) (by omega)
          have HTV := Lib.hid htv
          have hrow := HR.out
          have hlts : ∀ j, u2.ownBlock = some j → j < wr.heap.size := fun j hj => (World.ownsRow.lt hrow.1 j hj).2
          have HLT := Lib.hid hlts
          clear hrow hlts
          go_upto_if 51 with fail
          obtain ⟨b1, hb1⟩ : ∃ b : Bool, ((k : Int) % 3 == 0) = b := ⟨_, rfl⟩
          obtain ⟨b2, hb2⟩ : ∃ b : Bool, ((k : Int) % 7 == 0) = b := ⟨_, rfl⟩
          obtain ⟨b3, hb3⟩ : ∃ b : Bool, decide ((0 : Int) < (n : Int) % 3) = b := ⟨_, rfl⟩
          clear htv
          have hx4 : Xb ((wr.alloc (.cells #[.int .i64 0, .int .i64 2, .int .i64 1, .int .i64 2, .int .i64 0, .int .i64 3, .int .i64 1, .int .i64 3, .int .i64 0, .int .i64 1, .int .i64 4] 3)).alloc (.cells #[.bool false, .int .u8 tv, .bool ((k : Int) % 3 == 0), .bool ((k : Int) % 7 == 0), .bool (decide ((0 : Int) < (n : Int) % 3)), .int .u8 tl0] 33)) (wr.heap.size + 1) tv ((k : Int) % 3 == 0) ((k : Int) % 7 == 0) (decide ((0 : Int) < (n : Int) % 3)) tl0 := by
            have := Blk.new (wr.alloc (.cells #[.int .i64 0, .int .i64 2, .int .i64 1, .int .i64 2, .int .i64 0, .int .i64 3, .int .i64 1, .int .i64 3, .int .i64 0, .int .i64 1, .int .i64 4] 3)) 33 #[.bool false, .int .u8 tv, .bool ((k : Int) % 3 == 0), .bool ((k : Int) % 7 == 0), .bool (decide ((0 : Int) < (n : Int) % 3)), .int .u8 tl0]
            rw [World.size_alloc] at this
            exact this
          have hb4 : Below wr.heap.size wr ((wr.alloc (.cells #[.int .i64 0, .int .i64 2, .int .i64 1, .int .i64 2, .int .i64 0, .int .i64 3, .int .i64 1, .int .i64 3, .int .i64 0, .int .i64 1, .int .i64 4] 3)).alloc (.cells #[.bool false, .int .u8 tv, .bool ((k : Int) % 3 == 0), .bool ((k : Int) % 7 == 0), .bool (decide ((0 : Int) < (n : Int) % 3)), .int .u8 tl0] 33)) := two_below _ _
          have hz4 : wr.heap.size + 1 < ((wr.alloc (.cells #[.int .i64 0, .int .i64 2, .int .i64 1, .int .i64 2, .int .i64 0, .int .i64 3, .int .i64 1, .int .i64 3, .int .i64 0, .int .i64 1, .int .i64 4] 3)).alloc (.cells #[.bool false, .int .u8 tv, .bool ((k : Int) % 3 == 0), .bool ((k : Int) % 7 == 0), .bool (decide ((0 : Int) < (n : Int) % 3)), .int .u8 tl0] 33)).heap.size := by simp
          generalize ((wr.alloc (.cells #[.int .i64 0, .int .i64 2, .int .i64 1, .int .i64 2, .int .i64 0, .int .i64 3, .int .i64 1, .int .i64 3, .int .i64 0, .int .i64 1, .int .i64 4] 3)).alloc (.cells #[.bool false, .int .u8 tv, .bool ((k : Int) % 3 == 0), .bool ((k : Int) % 7 == 0), .bool (decide ((0 : Int) < (n : Int) % 3)), .int .u8 tl0] 33)) = w4 at hx4 hb4 hz4 ⊢
          rw [hb1, hb2, hb3] at hx4
          clear hb1 hb2 hb3
          have HK4 := Lib.hid (show Kr w w4 u2 l (wr.heap.size + 1) from ⟨arow_below HR.out hb4, HB2.out.trans (hb4.mono HB2.out.size), by omega, fun j hj => by have := HLT.out j hj; omega, hz4⟩)
          have HX4 := Lib.hid hx4
          obtain ⟨g, hg⟩ : ∃ g, wr.heap.size + 1 = g := ⟨_, rfl⟩
          rw [hg] at HK4 HX4 ⊢
          clear hx4 hb4 hz4 hg HLT HR HB2 hsz2
          go_cut [4] (fun s4 wx => ∃ t1 t2 : Int, s4 = .int .u8 t1 ∧ (0 ≤ t1 ∧ t1 ≤ 255) ∧ (0 ≤ t2 ∧ t2 ≤ 255) ∧ Kr w wx u2 l g ∧ Xb wx g tv b1 b2 b3 t2)
          case first =>
            obtain ⟨⟨x0, x1, x2, x3, x4, x5⟩, xf, xl⟩ := xb_cells HX4.out
            go_wp2_with fail
            all_goals go_meet
            case rel => exact ⟨_, _, rfl, by omega, by omega, kr_set HK4.out _, xb_set HX4.out _⟩
            case rel => exact ⟨_, _, rfl, ⟨tl1, tl2⟩, ⟨tl1, tl2⟩, HK4.out, HX4.out⟩
          case rest =>
            obtain ⟨t1, t2, rfl, ⟨t10, t11⟩, ⟨t20, t21⟩, hk5, hx5⟩ := hcut
            have HK5 := Lib.hid hk5
            have HX5 := Lib.hid hx5
            clear hk5 hx5 HK4 HX4
            go_upto_if 58 with fail
            go_cut [4] (fun s4 wx => s4 = .int .u8 t1 ∧ ∃ t3 : Int, (0 ≤ t3 ∧ t3 ≤ 255) ∧ Kr w wx u2 l g ∧ Xb wx g tv b1 b2 b3 t3)
            case first =>
              obtain ⟨⟨x0, x1, x2, x3, x4, x5⟩, xf, xl⟩ := xb_cells HX5.out
              go_wp2_with fail
              all_goals go_meet
              case rel => exact ⟨rfl, _, by omega, kr_set HK5.out _, xb_set HX5.out _⟩
              case rel => exact ⟨rfl, _, ⟨t20, t21⟩, HK5.out, HX5.out⟩
            case rest =>
              obtain ⟨rfl, t3, ⟨t30, t31⟩, hk6, hx6⟩ := hcut
              have HK6 := Lib.hid hk6
              have HX6 := Lib.hid hx6
              clear hk6 hx6 HK5 HX5
              go_wp2_with fail
              obtain ⟨q, hq, q10⟩ : ∃ q : Nat, ((k : Int) / 5).tmod 10 = (q : Int) ∧ q < 10 := ⟨k / 5 % 10, by rw [Int.tmod_eq_emod_of_nonneg (by omega)]; omega, by omega⟩
              obtain ⟨d, d0, d6, hd⟩ := tab2 q q10
              have hw5 : IntKind.i64.wrap ((k : Int) / 5) = (k : Int) / 5 := wrap_small _ (by omega) (by omega)
              obtain ⟨c6, hc6, c60, c65⟩ : ∃ c : Int, (k : Int).tmod 6 = c ∧ 0 ≤ c ∧ c ≤ 5 := ⟨(k : Int) % 6, Int.tmod_eq_emod_of_nonneg (by omega), by omega, by omega⟩
              have hw6 : IntKind.i64.wrap (c6 - 1) = c6 - 1 := wrap_small _ (by omega) (by omega)
              have q0 : (0 : Int) ≤ (q : Int) := by omega
              have q1 : (q : Int) < 10 := by omega
              obtain ⟨⟨x0, x1, x2, x3, x4, x5⟩, xf, xl⟩ := xb_cells HX6.out
              go_cut [2] (fun s2 wx => ∃ a : Ac, a.ok ∧ wx.ownsRow w.heap.size 35 9 s2 (l.length + 1) (acells l ++ a.cells) ∧ Below w.heap.size w wx)
              case first =>
                go_region_law (first
                  | (refine step_append_own rfl (.tmp 62) (.tmp 77) 22 rfl w.heap.size 35 j0 _ 9 24 Try.underlying22 hi hz0 hz1 hz2 rfl (by decide) u2 l.length (acells l) (by simp [Act.eval]) (kr_below HK6.out (two_below (.cells #[.int .i64 0, .int .i64 1, .int .i64 2, .int .i64 3, .int .i64 0, .int .i64 1, .int .i64 2, .int .i64 5, .int .i64 6, .int .i64 0] 3) (.cells #[.int .i64 d, .bool false, .int .u8 tv, .bool b1, .bool b2, .bool b3, .int .u8 t3, .bool ((k : Int).tmod 2 == 0), .int .i64 (c6 - 1)] 35))).1.1 ⟨wc.heap.size + 1, 0, none⟩ 1 1 [.int .i64 d, .bool false, .int .u8 tv, .bool b1, .bool b2, .bool b3, .int .u8 t3, .bool ((k : Int).tmod 2 == 0), .int .i64 (c6 - 1)] (by simp [Act.eval]) rfl (by exact news_two wc _ #[.int .i64 d, .bool false, .int .u8 tv, .bool b1, .bool b2, .bool b3, .int .u8 t3, .bool ((k : Int).tmod 2 == 0), .int .i64 (c6 - 1)] 35) (by simp [Value.oneCell']) (by simp [maxLen]; omega) (by omega) (by have := HK6.out.2.1.size; simp; omega) ?_; intro v' w7 hown' hgrow; have hb7 := rest_two HK6.out _ _ hgrow; clear hgrow))
                all_goals (go_wp2_with fail; go_meet)
                all_goals (case rel => exact ⟨⟨d, ⟨false, tv, b1, b2, b3, t3⟩, ((k : Int).tmod 2 == 0), c6 - 1⟩, ⟨⟨⟨tv0, (by show tv ≤ 255; omega)⟩, t30, t31⟩, i64_small d (by omega) (by omega), i64_small (c6 - 1) (by omega) (by omega)⟩, hown', hb7⟩)
              case rest =>
                obtain ⟨a, hao, hown, hb7⟩ := hcut
                have HA7 := Lib.hid (arow_snoc HK6.out.1.2 hao hown)
                have HB7 := Lib.hid hb7
                have hll7 : (l ++ [a]).length ≤ 2 + 3 * i := by rw [List.length_append]; show l.length + 1 ≤ _; omega
                clear hao hown hb7 HK6 HX6 xf xl x0 x1 x2 x3 x4 x5 hd hw5 hw6 hc6 hq
                generalize l ++ [a] = l7 at HA7 hll7
                go_upto_if 81 with fail
                go_cut [2] (fun s2 wx => ∃ l8 : List Ac, l8.length ≤ 4 + 3 * i ∧ Arow w wx s2 l8 ∧ Below w.heap.size w wx)
                case first =>
                  by_cases h29 : (k : Int) % 29 = 0
                  · go_wp2_with (at_builtin; refine wpList_append_own _ rfl (.tmp 82) (.tmp 94) 22 rfl w.heap.size 35 j0 _ 9 24 Try.underlying22 hi hz0 hz1 hz2 rfl (by decide) u2 l7.length (acells l7) rfl (World.ownsRow.alloc HA7.out.1 _) ⟨wc.heap.size, 0, none⟩ 2 2 [.int .i64 0, .bool true, .int .u8 2, .bool false, .bool false, .bool (decide ((0 : Int) < (n : Int) % 3)), .int .u8 t1, .bool false, .int .i64 0, .int .i64 (7 - (k : Int) % 2 * 2), .bool false, .int .u8 0, .bool false, .bool false, .bool false, .int .u8 0, .bool false, .int .i64 0] rfl rfl (by exact World.news_of_block (cs := #[.int .i64 0, .bool true, .int .u8 2, .bool false, .bool false, .bool (decide ((0 : Int) < (n : Int) % 3)), .int .u8 t1, .bool false, .int .i64 0, .int .i64 (7 - (k : Int) % 2 * 2), .bool false, .int .u8 0, .bool false, .bool false, .bool false, .int .u8 0, .bool false, .int .i64 0]) (heap_alloc_new wc _)) (by simp [Value.oneCell']) (by simp [maxLen]; omega) (by omega) (by have := HB7.out.size; simp; omega) ?_; intro v' w8 hown' hgrow _; have hb8 := rest_one HA7.out HB7.out _ hgrow; clear hgrow)
                    go_meet
                    case rel => exact ⟨l7 ++ [⟨0, ⟨true, 2, false, false, decide ((0 : Int) < (n : Int) % 3), t1⟩, false, 0⟩, ⟨7 - (k : Int) % 2 * 2, ⟨false, 0, false, false, false, 0⟩, false, 0⟩], (by rw [List.length_append]; show l7.length + 2 ≤ _; omega), arow_two (a := ⟨0, ⟨true, 2, false, false, decide ((0 : Int) < (n : Int) % 3), t1⟩, false, 0⟩) (b := ⟨7 - (k : Int) % 2 * 2, ⟨false, 0, false, false, false, 0⟩, false, 0⟩) HA7.out.2 ⟨⟨⟨by simp, by simp⟩, t10, t11⟩, rfl, rfl⟩ ⟨⟨⟨by simp, by simp⟩, by simp, by simp⟩, i64_small _ (by show (-100000 : Int) ≤ 7 - (k : Int) % 2 * 2; omega) (by show 7 - (k : Int) % 2 * 2 ≤ 100000; omega), rfl⟩ hown', hb8⟩
                  · go_wp2_with fail
                    go_meet
                    case rel => exact ⟨l7, by omega, HA7.out, HB7.out⟩
                case rest =>
                  obtain ⟨l8, hl8, ha8, hb8⟩ := hcut
                  have HA8 := Lib.hid ha8
                  have HB8 := Lib.hid hb8
                  clear ha8 hb8 HA7 HB7
                  go_wp2_with fail
                  go_roundw
                  case rel => exact ⟨i + 1, (k * 7 + 5 * i + 3) % 10007, t1, l8, by simp, by simp, rfl, by omega, by omega, ⟨t10, t11⟩, by omega, HA8.out, HB8.out⟩
                  case measure => simp [intOf]; omega
        · obtain rfl : i = 26 := by omega
          go_wp2_with fail
          refine (plays_any _ _ (arow_acts HR.out (by omega))).mono ?_
          rintro e w4 ⟨rfl, hb4⟩
          have HR4 := Lib.hid (arow_below HR.out hb4)
          have HB4 := Lib.hid (HB2.out.trans (hb4.mono HB2.out.size))
          clear hb4 HR HB2
          go_wp2_with fail
          refine (decodes_any _ _ (arow_acts HR4.out (by omega))).mono ?_
          rintro e w5 ⟨rfl, hb5⟩
          have HR5 := Lib.hid (arow_below HR4.out hb5)
          have HB5 := Lib.hid (HB4.out.trans (hb5.mono HB4.out.size))
          clear hb5 HR4 HB4
          go_wp2_with fail
          refine (rises_any _ _ (arow_acts HR5.out (by omega))).mono ?_
          rintro e w6 ⟨rfl, hb6⟩
          have HB6 := Lib.hid (HB5.out.trans (hb6.mono HB5.out.size))
          clear hb6 HR5 HB5
          go_wp2_with fail
          go_roundw
          case rel => exact ⟨n + 1, by simp, by omega, HB6.out⟩
          case measure => simp [intOf]; omega
    · obtain rfl : n = 400 := by omega
      go_wp2_with fail
      refine (plays_any _ _ nil_acts).mono ?_
      rintro e w4 ⟨rfl, hb4⟩
      have HB4 := Lib.hid (HB.out.trans (hb4.mono HB.out.size))
      have hs4 := HB4.out.size
      clear hb4 HB
      go_wp2_with fail
      refine (decodes_any _ _ (five_acts w4)).mono ?_
      rintro e w5 ⟨rfl, hb5⟩
      have HB5 := Lib.hid ((HB4.out.alloc hs4 _).trans (hb5.mono (by simp; omega)))
      clear hb5 HB4
      go_wp2_with fail
      refine (none_walk ⟨true, 0, false, false, false, 0⟩ 2 _ ⟨by simp, by simp⟩).mono ?_
      rintro e w6 ⟨rfl, hb6⟩
      have HB6 := Lib.hid (HB5.out.trans (hb6.mono HB5.out.size))
      clear hb6 HB5
      go_wp2_with fail
      refine (works_any _).mono ?_
      rintro e w7 ⟨rfl, hb7⟩
      have HB7 := Lib.hid (HB6.out.trans (hb7.mono HB6.out.size))
      clear hb7 HB6
      go_wp2_with fail
      go_ret
      exact ⟨rfl, HB7.out⟩
end Go.Proofs.Ytnodnngakopooaa
