/- The reference's In and Missing, by contracts. Conditions: numbers of their kinds. -/
import Derived.Test.YtihedeijfofogaaGRef
import Derived.Deep.RegionLaw
import Derived.Laws.AppendOwnNone
namespace Go.Proofs.Ytihedeijfofogaa
open Go.RowKit Go.Shelf

/-- append onto what the call owns, as one step of a region that draws. -/
theorem step_append_own {P : Program} {ops : Array Oper} {o : Oper} {a : Act} {w : World} {K : Act → World → Prop} {Q : Exit → Act → World → Prop} {E : Prop} (hgd : o.guard = none) (s x : Operand) (t : TypeId)
    (ho : o.op = .call { callee := .builtin .append, args := #[s, x], argTypes := #[t, t] })
    (base : Nat) (e : TypeId) (i : TypeInfo) (z : Value) (size bytes : Nat) (ht : P.underlying t = some (.slice e)) (hi : P.info? e = some i) (hz : i.zero = some z)
    (hsize : i.size = size) (hby : i.bytes = bytes) (hzs : z.cells.size = size) (hsz : 0 < size)
    (v : Value) (n : Nat) (xs : List Value) (hs : a.eval s = v) (hown : w.ownsRow base e size v n xs)
    (ad : Addr) (m c : Nat) (news : List Value) (hx : a.eval x = .slice (some ad) m c) (hl : news.length = m * size) (hnews : ∀ j u, news[j]? = some u → w.cell? (ad.add j) = some u) (h1 : ∀ u ∈ news, u.oneCell' = true)
    (h63 : n + m ≤ maxLen) (hbytes : (n + m) * bytes ≤ 140737488355328) (hbase : base ≤ w.heap.size)
    (h : ∀ v' w', w'.ownsRow base e size v' (n + m) (xs ++ news) → w.grownBy w' v.ownBlock → K (a.put o.dst v') w') :
    if Region.wanted o (yielded ops a.tmps) = true then Oper.wp P o a w K Q else E := by
  have hw : Region.wanted o (yielded ops a.tmps) = true := by simp [Region.wanted, hgd]
  rw [if_pos hw]
  exact wp_append_own w s x t ho base e i z size bytes ht hi hz hsize hby hzs hsz v n xs hs hown ad m c news hx hl hnews h1 h63 hbytes hbase fun v' w' h2 h3 _ => h v' w' h2 h3

/-- A row that the call owns reads as numbers. -/
theorem nums_of_own {w : World} {base g cap : Nat} {xs : List Int} {n : Nat} (h : w.ownsRow base 23 1 (.slice (some ⟨g, 0, none⟩) n cap) n (xs.map (Value.int .u64))) (hx : ∀ x ∈ xs, (Lit.int .u64 x).wf = true) :
    n = xs.length ∧ base ≤ g ∧ Nums .u64 w w.heap.size (some ⟨g, 0, none⟩) xs := by
  have hn : n = xs.length := by have := h.1; simp at this; omega
  rcases h.2 with ⟨h0, _⟩ | ⟨g', cap', cur, e, hb, hg, hnc, hcm, -, -⟩
  · cases h0
  · cases e
    refine ⟨hn, hb, by omega, hx, fun h0 => ⟨_, rfl, (Array.getElem?_eq_some_iff.1 hg).1, fun j hj => ?_⟩⟩
    refine (h.cells rfl) j _ ?_
    simp [List.getD_eq_getElem?_getD, hj]
/-- The row of what came, as the reference holds it: beyond block b. -/
def Rs (w : World) (b : Nat) (A : Option Addr) (cap : Nat) (l : List Int) : Prop := Nums .u64 w w.heap.size A l ∧ (l = [] → A = none ∧ cap = 0) ∧ ∀ ad, A = some ad → b < ad.block
theorem Rs.below {w w' : World} {b : Nat} {A : Option Addr} {cap : Nat} {l : List Int} (h : Rs w b A cap l) (hb : Below w.heap.size w w') : Rs w' b A cap l := by
  refine ⟨?_, h.2⟩
  obtain ⟨h1, h2, h3⟩ := h.1.below hb
  refine ⟨h1, h2, fun h0 => ?_⟩
  obtain ⟨ad, e, hlt, hc⟩ := h3 h0
  exact ⟨ad, e, Nat.lt_of_lt_of_le hlt hb.size, hc⟩
theorem Rs.grown {w w' : World} {b : Nat} {A : Option Addr} {cap : Nat} {l : List Int} (h : Rs w b A cap l) (hb : w.grownBy w' (some b)) : Rs w' b A cap l := by
  refine ⟨?_, h.2⟩
  obtain ⟨h1, h2, h3⟩ := h.1
  refine ⟨h1, h2, fun h0 => ?_⟩
  obtain ⟨ad, e, hlt, hc⟩ := h3 h0
  refine ⟨ad, e, Nat.lt_of_lt_of_le hlt hb.size, fun j hj => ?_⟩
  rw [← hc j hj]
  have hk := hb.block ad.block hlt (fun e' => by cases e'; exact absurd (h.2.2 ad e) (Nat.lt_irrefl _))
  unfold World.cell?
  rw [block_of_add, hk]

theorem wf_u64 {x : Int} (h0 : 0 ≤ x) (h1 : x ≤ 18446744073709551615) : (Lit.int .u64 x).wf = true := by
  simp only [Lit.wf, Bool.and_eq_true, decide_eq_true_eq]
  exact ⟨h0, h1⟩
theorem cells_of_nums {w : World} {B : Nat} {ad : Addr} {l : List Int} (h : Nums .u64 w B (some ad) l) (h0 : 0 < l.length) : ∀ j u, (l.map (Value.int .u64))[j]? = some u → w.cell? (ad.add j) = some u := by
  intro j u hu
  have hj : j < l.length := by
    rcases Nat.lt_or_ge j l.length with h | h
    · exact h
    · rw [List.getElem?_eq_none (by simpa using h)] at hu; cases hu
  obtain ⟨ad', e, -, hc⟩ := h.2.2 h0
  cases e
  rw [hc j hj, ← hu]
  simp [hj, List.getD_eq_getElem?_getD]

theorem two_boxes {w w1 : World} {x y x' y' : Value} (h : (w.alloc (.cells #[x, y] 39)).alloc (.cells #[x', y'] 39) = w1) :
    Blk w1 w.heap.size 39 #[x, y] ∧ Blk w1 (w.heap.size + 1) 39 #[x', y'] ∧ Below w.heap.size w w1 ∧ w1.heap.size = w.heap.size + 2 := by
  subst h
  refine ⟨(Blk.new w 39 _).alloc _, ?_, (((Below.refl _ w).alloc (Nat.le_refl _) _).alloc (by simp) _), by simp⟩
  have h := Blk.new (w.alloc (.cells #[x, y] 39)) 39 #[x', y']
  rw [World.size_alloc] at h
  exact h

set_option maxHeartbeats 1000000 in
theorem refin_old (sz : Int) (A : Option Addr) (cap : Nat) (l : List Int) (n s : Int) (b : Nat) (w : World) (s0 : 1 ≤ sz) (s1 : sz ≤ 1024) (hR : Rs w b A cap l) (hs : lookL sz l n = s) (hs0 : s ≠ 0) :
    Calls Try.prog 15 #[.agg #[.int .i64 sz, .slice A l.length cap], .int .u64 n] w fun e w' => e = .returned (.tuple #[.agg #[.int .i64 sz, .slice A l.length cap], .int .i64 s]) ∧ Below w.heap.size w w' := by
  have HL := fun W hW hB => reflook_any sz A cap l n w.heap.size W s0 s1 hW hB
  rw [hs] at HL
  go_enter Try.func15, Try.ntmps15
  go_wp2_with fail
  obtain ⟨w1, hw1⟩ : ∃ w1, (w.alloc (.cells #[.int .i64 sz, .slice A l.length cap] 39)).alloc (.cells #[.int .i64 0, .slice none 0 0] 39) = w1 := ⟨_, rfl⟩
  obtain ⟨hx1, hy1, hb1, hz1⟩ := two_boxes hw1
  rw [hw1]
  clear hw1
  refine (HL w1 (hR.1.below hb1) (by omega)).mono ?_
  rintro e w2 ⟨rfl, hb2⟩
  have hx2 := hx1.below hb2 (by omega)
  have hy2 := hy1.below hb2 (by omega)
  have HB := Lib.hid (hb1.trans (hb2.mono (by omega)))
  have c0 : w2.cell? ⟨w.heap.size, 0, none⟩ = some (.int .i64 sz) := Blk.cell hx2 0
  have c1 : w2.cell? ⟨w.heap.size, 1, none⟩ = some (.slice A l.length cap) := Blk.cell hx2 1
  have d0 : w2.cell? ⟨w.heap.size + 1, 0, none⟩ = some (.int .i64 0) := Blk.cell hy2 0
  have d1 : w2.cell? ⟨w.heap.size + 1, 1, none⟩ = some (.slice none 0 0) := Blk.cell hy2 1
  have g0 := hy2.frozen 0
  have g1 := hy2.frozen 1
  have HY := Lib.hid hy2
  clear hx1 hy1 hx2 hy2 hb1 hb2 HL hR hs
  go_wp2_with fail
  obtain ⟨w3, hw3⟩ : ∃ w3, (w2.setCell ⟨w.heap.size + 1, 0, none⟩ (.int .i64 sz)).setCell ⟨w.heap.size + 1, 1, none⟩ (.slice A l.length cap) = w3 := ⟨_, rfl⟩
  rw [hw3]
  have hy3 : Blk w3 (w.heap.size + 1) 39 #[.int .i64 sz, .slice A l.length cap] := by rw [← hw3]; exact (HY.out.set_ 0 (.int .i64 sz)).set_ 1 (.slice A l.length cap)
  have hb3 : Below w.heap.size w w3 := by rw [← hw3]; exact (HB.out.setCell (p := ⟨w.heap.size + 1, 0, none⟩) (Nat.le_succ _) _).setCell (p := ⟨w.heap.size + 1, 1, none⟩) (Nat.le_succ _) _
  clear hw3
  have e0 := hy3.cell 0
  have e1 := hy3.cell 1
  exact bodyPost_ret (v := .tuple #[.agg #[.int .i64 sz, .slice A l.length cap], .int .i64 s]) (by simp [results, Try.results15, go_sem, e0, e1]) rfl ⟨rfl, hb3⟩

theorem not_own {w : World} {base S n : Nat} {v : Value} {xs : List Value} (h : w.ownsRow base 23 1 v n xs) (hS : S < base) : some S ≠ v.ownBlock := by
  rcases h.2 with ⟨rfl, _⟩ | ⟨g, cap, cur, rfl, hb, _⟩
  · simp [Value.ownBlock]
  · simp only [Value.ownBlock, ne_eq, Option.some.injEq]; omega
/-- What an append onto the call's own row leaves alone. -/
theorem app_tail {w3 w' : World} {S n : Nat} {v : Value} {xs : List Value} {o : Obj} {x y x' y' : Value} (hX : Blk w3 S 39 #[x, y]) (hY : Blk w3 (S + 1) 39 #[x', y']) (hrow : w3.ownsRow (S + 2) 23 1 v n xs) (hg : (w3.drew.alloc o).grownBy w' v.ownBlock) :
    Blk w' S 39 #[x, y] ∧ Blk w' (S + 1) 39 #[x', y'] ∧ Below S w3 w' := by
  have hlt := hX.lt
  refine ⟨(hX.drew.alloc o).grown hg (not_own hrow (by omega)), (hY.drew.alloc o).grown hg (not_own hrow (by omega)), ?_⟩
  refine Below.grown ((Below.refl S w3).drew.alloc (by show S ≤ w3.heap.size; omega) o) hg (by simp; show S ≤ _; omega) fun j e => ?_
  rcases hrow.2 with ⟨rfl, _⟩ | ⟨g, cap, cur, rfl, hb, _⟩
  · simp [Value.ownBlock] at e
  · simp only [Value.ownBlock, Option.some.injEq] at e; omega
theorem own_drew {w : World} {base n : Nat} {v : Value} {xs : List Value} (h : w.ownsRow base 23 1 v n xs) : w.drew.ownsRow base 23 1 v n xs := h
theorem one_cells (l : List Int) : ∀ u ∈ l.map (Value.int .u64), u.oneCell' = true := by
  intro u hu
  obtain ⟨x, -, rfl⟩ := List.mem_map.1 hu
  rfl

/-- What the reference's In leaves. -/
theorem in_end {w' w : World} {b g cap n : Nat} {sz : Int} {xs : List Int} {x y : Value} (hbw : b < w.heap.size) (hO : w'.ownsRow (w.heap.size + 2) 23 1 (.slice (some ⟨g, 0, none⟩) n cap) n (xs.map (Value.int .u64))) (hY : Blk w' (w.heap.size + 1) 39 #[x, y]) (hB : Below w.heap.size w w') (hF : ∀ x ∈ xs, (Lit.int .u64 x).wf = true) (hne : xs ≠ [])
    (w4 : World) (h4 : (w'.setCell ⟨w.heap.size + 1, 0, none⟩ (.int .i64 sz)).setCell ⟨w.heap.size + 1, 1, none⟩ (.slice (some ⟨g, 0, none⟩) n cap) = w4) :
    w4.cell? ⟨w.heap.size + 1, 0, none⟩ = some (.int .i64 sz) ∧ w4.cell? ⟨w.heap.size + 1, 1, none⟩ = some (.slice (some ⟨g, 0, none⟩) n cap) ∧ Rs w4 b (some ⟨g, 0, none⟩) cap xs ∧ Below w.heap.size w w4 ∧ w.heap.size ≤ g := by
  have hy4 : Blk w4 (w.heap.size + 1) 39 #[.int .i64 sz, .slice (some ⟨g, 0, none⟩) n cap] := by rw [← h4]; exact (hY.set_ 0 (.int .i64 sz)).set_ 1 (.slice (some ⟨g, 0, none⟩) n cap)
  have hb4 : Below w.heap.size w w4 := by rw [← h4]; exact (hB.setCell (p := ⟨w.heap.size + 1, 0, none⟩) (Nat.le_succ _) _).setCell (p := ⟨w.heap.size + 1, 1, none⟩) (Nat.le_succ _) _
  have hg4 : w'.grownBy w4 (some (w.heap.size + 1)) := by
    rw [← h4]
    refine only_setCell (p := ⟨w.heap.size + 1, 1, none⟩) ?_ (.inl rfl) _
    exact only_setCell (p := ⟨w.heap.size + 1, 0, none⟩) (World.grownBy.refl w' _) (.inl rfl) _
  have hO4 := hO.kept hg4 (.inr (not_own hO (by omega)).symm)
  obtain ⟨-, hgb, hN⟩ := nums_of_own hO4 hF
  refine ⟨hy4.cell 0, hy4.cell 1, ⟨hN, fun h => absurd h hne, fun ad e => ?_⟩, hb4, by omega⟩
  cases e
  show b < g
  omega

set_option maxHeartbeats 1000000 in
theorem refin_new (sz : Int) (A : Option Addr) (cap : Nat) (l : List Int) (n : Int) (b : Nat) (w : World) (s0 : 1 ≤ sz) (s1 : sz ≤ 1024) (n0 : 0 ≤ n) (n1 : n ≤ 18446744073709551615) (hlen : l.length ≤ 100) (hbw : b < w.heap.size) (hR : Rs w b A cap l) (hs : lookL sz l n = 0) :
    Calls Try.prog 15 #[.agg #[.int .i64 sz, .slice A l.length cap], .int .u64 n] w fun e w' => ∃ A' cap', e = .returned (.tuple #[.agg #[.int .i64 sz, .slice A' (l.length + 1 : Nat) cap'], .int .i64 0]) ∧ Rs w' b A' cap' (l ++ [n]) ∧ Below w.heap.size w w' ∧ ∀ ad, A' = some ad → w.heap.size ≤ ad.block := by
  obtain ⟨i0, hi, hz0, hz1, hz2⟩ := info_parts info23
  have HL := fun W hW hB => reflook_any sz A cap l n w.heap.size W s0 s1 hW hB
  rw [hs] at HL
  have hwf : ∀ x ∈ l ++ [n], (Lit.int .u64 x).wf = true := by
    intro x hx
    rcases List.mem_append.1 hx with hx | hx
    · exact hR.1.2.1 x hx
    · simp at hx; subst hx; exact wf_u64 n0 n1
  have HF := Lib.hid hwf
  clear hwf
  have hone := one_cells l
  go_enter Try.func15, Try.ntmps15
  go_wp2_with fail
  obtain ⟨w1, hw1⟩ : ∃ w1, (w.alloc (.cells #[.int .i64 sz, .slice A l.length cap] 39)).alloc (.cells #[.int .i64 0, .slice none 0 0] 39) = w1 := ⟨_, rfl⟩
  obtain ⟨hx1, hy1, hb1, hz1'⟩ := two_boxes hw1
  rw [hw1]
  clear hw1
  refine (HL w1 (hR.1.below hb1) (by omega)).mono ?_
  rintro e w2 ⟨rfl, hb2⟩
  have hx2 := hx1.below hb2 (by omega)
  have hy2 := hy1.below hb2 (by omega)
  have hsz2 := hb2.size
  have hB := hb1.trans (hb2.mono (by omega))
  have hR2 := hR.below hB
  have HB := Lib.hid hB
  have c1 : w2.cell? ⟨w.heap.size, 1, none⟩ = some (.slice A l.length cap) := Blk.cell hx2 1
  have HX := Lib.hid hx2
  have HY := Lib.hid hy2
  clear hx1 hy1 hx2 hy2 hb1 hb2 HL hs hB
  by_cases hl : l = []
  · obtain ⟨rfl, rfl⟩ := hR2.2.1 hl
    subst hl
    go_wp2_with (at_builtin; refine wpList_append_own_none rfl _ _ 22 rfl (w.heap.size + 2) 23 i0 1 Try.underlying22 hi (.slice none 0 0) 0 [] rfl (World.ownsRow_nil _ _ _ _) rfl ?_)
    have HX2 := Lib.hid HX.out
    have HY2 := Lib.hid HY.out
    have HR2 := Lib.hid (own_drew (World.ownsRow_nil w2 (w.heap.size + 2) 23 1))
    have HBB := Lib.hid HB.out
    have hWs : w.heap.size + 2 ≤ w2.heap.size := by omega
    have c0 : w2.cell? ⟨w.heap.size, 0, none⟩ = some (.int .i64 sz) := Blk.cell HX2.out 0
    have c0a : ∀ o, (w2.alloc o).cell? ⟨w.heap.size, 0, none⟩ = some (.int .i64 sz) := fun o => Blk.cell (HX2.out.alloc o) 0
    clear HX HY HB c1 hR hR2 hsz2 hz1'
    go_region_law (refine step_append_own rfl (.tmp 21) (.tmp 23) 22 rfl (w.heap.size + 2) 23 i0 (.int .u64 0) 1 8 Try.underlying22 hi hz0 hz1 hz2 rfl (by decide) (.slice none 0 0) 0 [] (by simp [Act.eval]) (HR2.out.alloc _) ⟨w2.heap.size, 0, none⟩ 1 1 [.int .u64 n] (by simp [Act.eval]) rfl (cell_one_new _ _ _) (by simp [Value.oneCell']) (by simp [maxLen]; try omega) (by omega) (by simp; try omega) ?_; intro v' w' hown hgrow; obtain ⟨g', cap', rfl⟩ := ownsRow_succ hown; obtain ⟨hx', hy', hb'⟩ := app_tail HX2.out HY2.out HR2.out hgrow; have e0 : w'.cell? ⟨w.heap.size, 0, none⟩ = some (.int .i64 sz) := Blk.cell hx' 0; have d0 : w'.cell? ⟨w.heap.size + 1, 0, none⟩ = some (.int .i64 0) := Blk.cell hy' 0; have d1 : w'.cell? ⟨w.heap.size + 1, 1, none⟩ = some (.slice none 0 0) := Blk.cell hy' 1; have g0 := hy'.frozen 0; have g1 := hy'.frozen 1; have HO := Lib.hid hown; have HY3 := Lib.hid hy'; have HB3 := Lib.hid (HBB.out.trans hb'); clear hown hgrow hx' hy' hb')
    all_goals (
      go_wp2
      obtain ⟨w4, hw4⟩ : ∃ w4, (w'.setCell ⟨w.heap.size + 1, 0, none⟩ (.int .i64 sz)).setCell ⟨w.heap.size + 1, 1, none⟩ (.slice (some ⟨g', 0, none⟩) 1 cap') = w4 := ⟨_, rfl⟩
      rw [hw4]
      obtain ⟨x0, x1, hR4, hB4, hG4⟩ := in_end (b := b) hbw HO.out HY3.out HB3.out HF.out (by simp) w4 hw4
      exact bodyPost_ret (v := .tuple #[.agg #[.int .i64 sz, .slice (some ⟨g', 0, none⟩) 1 cap'], .int .i64 0]) (by simp [results, Try.results15, go_sem, x0, x1]) rfl ⟨_, _, rfl, hR4, hB4, fun ad e => by cases e; exact hG4⟩)
  · have hpos : 0 < l.length := List.length_pos_iff.2 hl
    obtain ⟨ad, hA, -, -⟩ := hR2.1.2.2 hpos
    subst hA
    have hcs := cells_of_nums hR2.1 hpos
    go_wp2_with (at_builtin; refine wpList_append_own _ rfl _ _ 22 rfl (w.heap.size + 2) 23 i0 (.int .u64 0) 1 8 Try.underlying22 hi hz0 hz1 hz2 rfl (by decide) (.slice none 0 0) 0 [] rfl (World.ownsRow_nil _ _ _ _) ad l.length cap (l.map (Value.int .u64)) rfl (by simp) hcs hone (by simp [maxLen]; omega) (by omega) (by omega) ?_; intro v1 w3 hown hgr _)
    rw [Nat.zero_add, List.nil_append] at hown
    have hb3 : Below w.heap.size w2 w3 := (Below.refl _ w2).grown hgr (by omega) (fun j e => by cases e)
    have hsz3 := hgr.size
    have HX2 := Lib.hid (HX.out.grown hgr (by simp [Value.ownBlock]))
    have HY2 := Lib.hid (HY.out.grown hgr (by simp [Value.ownBlock]))
    have HR2 := Lib.hid (own_drew hown)
    have HBB := Lib.hid (HB.out.trans hb3)
    have hWs : w.heap.size + 2 ≤ w3.heap.size := by omega
    have c0 : w3.cell? ⟨w.heap.size, 0, none⟩ = some (.int .i64 sz) := Blk.cell HX2.out 0
    have c0a : ∀ o, (w3.alloc o).cell? ⟨w.heap.size, 0, none⟩ = some (.int .i64 sz) := fun o => Blk.cell (HX2.out.alloc o) 0
    clear HX HY HB c1 hR hR2 hsz2 hz1' hown hgr hb3 hsz3 hcs
    go_region_law (refine step_append_own rfl (.tmp 21) (.tmp 23) 22 rfl (w.heap.size + 2) 23 i0 (.int .u64 0) 1 8 Try.underlying22 hi hz0 hz1 hz2 rfl (by decide) v1 l.length (l.map (Value.int .u64)) (by simp [Act.eval]) (HR2.out.alloc _) ⟨w3.heap.size, 0, none⟩ 1 1 [.int .u64 n] (by simp [Act.eval]) rfl (cell_one_new _ _ _) (by simp [Value.oneCell']) (by simp [maxLen]; try omega) (by omega) (by simp; try omega) ?_; intro v' w' hown hgrow; obtain ⟨g', cap', rfl⟩ := ownsRow_succ hown; obtain ⟨hx', hy', hb'⟩ := app_tail HX2.out HY2.out HR2.out hgrow; have e0 : w'.cell? ⟨w.heap.size, 0, none⟩ = some (.int .i64 sz) := Blk.cell hx' 0; have d0 : w'.cell? ⟨w.heap.size + 1, 0, none⟩ = some (.int .i64 0) := Blk.cell hy' 0; have d1 : w'.cell? ⟨w.heap.size + 1, 1, none⟩ = some (.slice none 0 0) := Blk.cell hy' 1; have g0 := hy'.frozen 0; have g1 := hy'.frozen 1; have HO := Lib.hid hown; have HY3 := Lib.hid hy'; have HB3 := Lib.hid (HBB.out.trans hb'); clear hown hgrow hx' hy' hb')
    all_goals (
      go_wp2
      obtain ⟨w4, hw4⟩ : ∃ w4, (w'.setCell ⟨w.heap.size + 1, 0, none⟩ (.int .i64 sz)).setCell ⟨w.heap.size + 1, 1, none⟩ (.slice (some ⟨g', 0, none⟩) (l.length + 1) cap') = w4 := ⟨_, rfl⟩
      rw [hw4]
      obtain ⟨x0, x1, hR4, hB4, hG4⟩ := in_end (b := b) hbw (by simpa using HO.out) HY3.out HB3.out HF.out (by simp) w4 hw4
      exact bodyPost_ret (v := .tuple #[.agg #[.int .i64 sz, .slice (some ⟨g', 0, none⟩) (l.length + 1) cap'], .int .i64 0]) (by simp [results, Try.results15, go_sem, x0, x1]) rfl ⟨_, _, rfl, hR4, hB4, fun ad e => by cases e; exact hG4⟩)
end Go.Proofs.Ytihedeijfofogaa
