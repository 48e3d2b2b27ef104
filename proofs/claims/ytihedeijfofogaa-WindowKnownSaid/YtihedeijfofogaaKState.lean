/- What a round of the law WindowPlays keeps, and the calls that it makes. Conditions: numbers of their kinds. -/
import Derived.Test.YtihedeijfofogaaJWorks
namespace Go.Proofs.Ytihedeijfofogaa
open Go.RowKit Go.Shelf

/-- All that came, of what was given. -/
def hist (sz : Int) (zs : List Int) : List Int := zs.foldl (inL sz) []
theorem hist_snoc (sz : Int) (zs : List Int) (x : Int) : hist sz (zs ++ [x]) = inL sz (hist sz zs) x := by simp [hist]
theorem hist_more {sz : Int} {zs : List Int} {k : Nat} {u : Int} (h : zs[k]? = some u) : hist sz (zs.take (k + 1)) = inL sz (hist sz (zs.take k)) u := by rw [take_more h, hist_snoc]
theorem inL_len (sz : Int) (l : List Int) (n : Int) : (inL sz l n).length ≤ l.length + 1 := by unfold inL; split <;> simp
theorem hist_len (sz : Int) (zs : List Int) : (hist sz zs).length ≤ zs.length := by
  have key : ∀ (zs l : List Int), (zs.foldl (inL sz) l).length ≤ l.length + zs.length := by
    intro zs
    induction zs with
    | nil => intro l; simp
    | cons y zs ih =>
      intro l
      have h := ih (inL sz l y)
      have g := inL_len sz l y
      simp only [List.foldl_cons, List.length_cons]
      omega
  have := key zs []
  simpa [hist] using this

theorem refin_any (sz : Int) (A : Option Addr) (cap : Nat) (l : List Int) (n : Int) (b : Nat) (w : World) (s0 : 1 ≤ sz) (s1 : sz ≤ 1024) (n0 : 0 ≤ n) (n1 : n ≤ 18446744073709551615) (hlen : l.length ≤ 100) (hbw : b < w.heap.size) (hR : Rs w b A cap l) :
    Calls Try.prog 15 #[.agg #[.int .i64 sz, .slice A l.length cap], .int .u64 n] w fun e w' => ∃ A' cap', e = .returned (.tuple #[.agg #[.int .i64 sz, .slice A' (inL sz l n).length cap'], .int .i64 (lookL sz l n)]) ∧ Rs w' b A' cap' (inL sz l n) ∧ Below w.heap.size w w' ∧ ∀ ad, A' = some ad → A' = A ∨ w.heap.size ≤ ad.block := by
  by_cases h : lookL sz l n = 0
  · rw [h, show inL sz l n = l ++ [n] by unfold inL; rw [if_pos h]]
    refine (refin_new sz A cap l n b w s0 s1 n0 n1 hlen hbw hR h).mono ?_
    rintro e w' ⟨A', cap', rfl, hR', hb, hg⟩
    exact ⟨A', cap', by simp, hR', hb, fun ad e => .inr (hg ad e)⟩
  · rw [show inL sz l n = l by unfold inL; rw [if_neg h]]
    refine (refin_old sz A cap l n _ b w s0 s1 hR rfl h).mono ?_
    rintro e w' ⟨rfl, hb⟩
    exact ⟨A, cap, rfl, hR.below hb, hb, fun ad e => .inl rfl⟩

/-- The window, the reference's boxed window, the counts, the reference's row: of one round. -/
structure St (w0 : World) (e : Nat) (wr : World) (sz : Int) (h : List Int) (k0 k1 k2 : Int) (l : List Int) (A : Option Addr) (cap : Nat) (j0 j1 j2 : Int) : Prop where
  win : Win wr w0.heap.size sz h k0 k1 k2
  x : Blk wr e 39 #[.int .i64 sz, .slice A l.length cap]
  c : Blk wr (e + 1) 23 #[.int .u64 j0, .int .u64 j1, .int .u64 j2]
  rs : Rs wr (e + 1) A cap l
  b : Below w0.heap.size w0 wr
  lt : w0.heap.size < e
section
variable {w0 wr w' : World} {e : Nat} {sz : Int} {h : List Int} {k0 k1 k2 : Int} {l : List Int} {A : Option Addr} {cap : Nat} {j0 j1 j2 : Int}
theorem St.below (s : St w0 e wr sz h k0 k1 k2 l A cap j0 j1 j2) (hb : Below wr.heap.size wr w') : St w0 e w' sz h k0 k1 k2 l A cap j0 j1 j2 :=
  ⟨s.win.below hb s.win.lt, s.x.below hb s.x.lt, s.c.below hb s.c.lt, s.rs.below hb, s.b.trans (hb.mono s.b.size), s.lt⟩
theorem St.drewN (s : St w0 e wr sz h k0 k1 k2 l A cap j0 j1 j2) (n : Nat) : St w0 e (wr.drewN n) sz h k0 k1 k2 l A cap j0 j1 j2 := s.below (below_drewN (Below.refl _ _) n)
theorem Rs.only {b b' : Nat} (hR : Rs wr b A cap l) (hb : wr.grownBy w' (some b')) (hle : b' ≤ b) : Rs w' b A cap l := by
  refine ⟨?_, hR.2⟩
  obtain ⟨h1, h2, h3⟩ := hR.1
  refine ⟨h1, h2, fun h0 => ?_⟩
  obtain ⟨ad, e, hlt, hc⟩ := h3 h0
  refine ⟨ad, e, Nat.lt_of_lt_of_le hlt hb.size, fun j hj => ?_⟩
  rw [← hc j hj]
  have hk := hb.block ad.block hlt (fun e' => by cases e'; exact absurd (hR.2.2 ad e) (by omega))
  unfold World.cell?
  rw [block_of_add, hk]
theorem St.came (s : St w0 e wr sz h k0 k1 k2 l A cap j0 j1 j2) {h' : List Int} {k0' k1' k2' : Int} (hw : Win w' w0.heap.size sz h' k0' k1' k2') (hg : wr.grownBy w' (some w0.heap.size)) : St w0 e w' sz h' k0' k1' k2' l A cap j0 j1 j2 :=
  by
  have hlt := s.lt
  exact ⟨hw, s.x.grown hg (by simp; omega), s.c.grown hg (by simp; omega), s.rs.only hg (by omega), below_only (Nat.le_refl _) s.b hg, hlt⟩
theorem St.putx (s : St w0 e wr sz h k0 k1 k2 l A cap j0 j1 j2) {A' : Option Addr} {cap' : Nat} {l' : List Int} (hR : Rs wr (e + 1) A' cap' l')
    (he : (wr.setCell ⟨e, 0, none⟩ (.int .i64 sz)).setCell ⟨e, 1, none⟩ (.slice A' l'.length cap') = w') : St w0 e w' sz h k0 k1 k2 l' A' cap' j0 j1 j2 := by
  have hg : wr.grownBy w' (some e) := by
    rw [← he]
    refine only_setCell (p := ⟨e, 1, none⟩) ?_ (.inl rfl) _
    exact only_setCell (p := ⟨e, 0, none⟩) (World.grownBy.refl wr _) (.inl rfl) _
  have hlt := s.lt
  refine ⟨s.win.grown hg (by simp; omega), ?_, s.c.grown hg (by simp), hR.only hg (by omega), ?_, hlt⟩
  · rw [← he]; exact (s.x.set_ 0 (.int .i64 sz)).set_ 1 (.slice A' l'.length cap')
  · exact s.b.grown hg s.b.size fun j e => by cases e; omega
/-- The counts, by their place. -/
theorem St.putc (s : St w0 e wr sz h k0 k1 k2 l A cap j0 j1 j2) {st : Nat} (h3 : st < 3)
    (he : wr.setCell ⟨e + 1, st, none⟩ (.int .u64 (cnt j0 j1 j2 st + 1)) = w') : St w0 e w' sz h k0 k1 k2 l A cap (cu st 0 j0) (cu st 1 j1) (cu st 2 j2) := by
  have hg : wr.grownBy w' (some (e + 1)) := by
    rw [← he]; exact only_setCell (p := ⟨e + 1, st, none⟩) (World.grownBy.refl wr _) (.inl rfl) _
  have hlt := s.lt
  refine ⟨s.win.grown hg (by simp; omega), s.x.grown hg (by simp), ?_, s.rs.only hg (by omega), ?_, hlt⟩
  · rw [← he]
    have hs := s.c.set_ st (.int .u64 (cnt j0 j1 j2 st + 1))
    rcases (show st = 0 ∨ st = 1 ∨ st = 2 by omega) with rfl | rfl | rfl
    · exact hs
    · exact hs
    · exact hs
  · exact s.b.grown hg s.b.size fun j e => by cases e; omega
theorem St.cell (s : St w0 e wr sz h k0 k1 k2 l A cap j0 j1 j2) {st : Nat} (h3 : st < 3) : wr.cell? ⟨e + 1, st, none⟩ = some (.int .u64 (cnt j0 j1 j2 st)) := by
  rw [Blk.cell s.c]
  rcases (show st = 0 ∨ st = 1 ∨ st = 2 by omega) with rfl | rfl | rfl <;> rfl
end

theorem missL_wf {sz : Int} {l : List Int} (hn : ∀ x ∈ l, 0 ≤ x ∧ x ≤ 18446744073709551615) : ∀ x ∈ missL sz l, (Lit.int .u64 x).wf = true := by
  intro x hx
  unfold missL at hx
  split at hx
  · cases hx
  · unfold gap at hx
    obtain ⟨hx, -⟩ := List.mem_filter.1 hx
    obtain ⟨i, hi, rfl⟩ := List.mem_map.1 hx
    rw [List.mem_range] at hi
    have h0 : 0 ≤ lstL l := lstL_ge fun x hx => (hn x hx).1
    have h1 : topL l ≤ 18446744073709551615 := topL_le (by omega) fun x hx => (hn x hx).2
    exact wf_u64 (by omega) (by omega)
/-- A row of the call's own, by its block. -/
def Mine (w : World) (B : Nat) (A : Option Addr) (n : Nat) : Prop := 0 < n → ∃ g cur, A = some ⟨g, 0, none⟩ ∧ B ≤ g ∧ Blk w g 23 cur ∧ n ≤ cur.size
theorem own_nums {w : World} {base : Nat} {v : Value} {xs : List Int} (ho : w.ownsRow base 23 1 v xs.length (xs.map (Value.int .u64))) (hx : ∀ x ∈ xs, (Lit.int .u64 x).wf = true) :
    ∃ A cap, v = .slice A xs.length cap ∧ Nums .u64 w w.heap.size A xs ∧ Mine w base A xs.length := by
  rcases ho.2 with ⟨rfl, h0⟩ | ⟨g, cap, cur, rfl, hg, hgb, hnc, hcm, hcs, ht⟩
  · have h0' : xs = [] := List.eq_nil_of_length_eq_zero h0
    subst h0'
    exact ⟨none, 0, rfl, ⟨by simp, by simp, fun h => absurd h (by simp)⟩, fun h => absurd h (by simp)⟩
  · obtain ⟨-, -, hN⟩ := nums_of_own ho hx
    exact ⟨_, cap, rfl, hN, fun _ => ⟨g, cur, rfl, hg, hgb, by omega⟩⟩
theorem missing_pl (b : Nat) (sz : Int) (l : List Int) (k0 k1 k2 : Int) (w : World) (s0 : 1 ≤ sz) (s1 : sz ≤ 1024) (hw : Win w b sz l k0 k1 k2) :
    Calls Try.prog 13 #[.pointer (some ⟨b, 0, none⟩)] w fun e W' => ∃ A cap, e = .returned (.slice A (missL sz l).length cap) ∧ Nums .u64 W' W'.heap.size A (missL sz l) ∧ Mine W' w.heap.size A (missL sz l).length ∧ Below w.heap.size w W' := by
  refine (missing_win b sz l k0 k1 k2 w s0 s1 hw).mono ?_
  rintro e W' ⟨v, rfl, ho, -, hb⟩
  obtain ⟨A, cap, rfl, h1, h2⟩ := own_nums ho (missL_wf hw.nums)
  exact ⟨A, cap, rfl, h1, h2, hb⟩
theorem refmissing_pl (sz : Int) (A : Option Addr) (cap : Nat) (l : List Int) (b : Nat) (w : World) (s0 : 1 ≤ sz) (s1 : sz ≤ 1024) (hR : Rs w b A cap l) :
    Calls Try.prog 19 #[.agg #[.int .i64 sz, .slice A l.length cap]] w fun e w' => ∃ A' cap', e = .returned (.slice A' (missL sz l).length cap') ∧ Nums .u64 w' w'.heap.size A' (missL sz l) ∧ Below w.heap.size w w' := by
  refine (refmissing_any sz A cap l b w s0 s1 hR).mono ?_
  rintro e W' ⟨v, rfl, ho, hb⟩
  obtain ⟨A', cap', rfl, h1, h2⟩ := own_nums ho (missL_wf (nums_u64 hR.1))
  exact ⟨A', cap', rfl, h1, hb⟩
theorem nums_up {w w' : World} {B B' : Nat} {A : Option Addr} {xs : List Int} (h : Nums .u64 w B A xs) (hb : Below B w w') (hs : B ≤ B') : Nums .u64 w' B' A xs := by
  obtain ⟨h1, h2, h3⟩ := h.below hb
  refine ⟨h1, h2, fun h0 => ?_⟩
  obtain ⟨ad, e, hlt, hc⟩ := h3 h0
  exact ⟨ad, e, by omega, hc⟩

theorem Rs.far {w : World} {b cap g i : Nat} {A : Option Addr} {l : List Int} (h : Rs w b A cap l) (hg : ∀ ad, A = some ad → ad.block ≠ g) (v : Value) : Rs (w.setCell ⟨g, i, none⟩ v) b A cap l := by
  refine ⟨?_, h.2⟩
  obtain ⟨h1, h2, h3⟩ := h.1
  refine ⟨h1, h2, fun h0 => ?_⟩
  obtain ⟨ad, e, hlt, hc⟩ := h3 h0
  refine ⟨ad, e, by simpa [World.setCell] using hlt, fun j hj => ?_⟩
  rw [← hc j hj]
  have hk := Below.heap_setCell w ⟨g, i, none⟩ v ad.block (hg ad e)
  unfold World.cell?
  rw [block_of_add, hk]
theorem Rs.lt {w : World} {b cap : Nat} {A : Option Addr} {l : List Int} (h : Rs w b A cap l) : ∀ ad, A = some ad → ad.block < w.heap.size := by
  intro ad e
  have hl : l ≠ [] := fun hl => by rw [(h.2.1 hl).1] at e; cases e
  obtain ⟨ad', e', hlt, -⟩ := h.1.2.2 (List.length_pos_iff.2 hl)
  rw [e'] at e; cases e; exact hlt
/-- The next one, boxed. -/
def Nx (w2 w' : World) (sz : Int) (b g : Nat) (X : Option Addr) (xc : Nat) (l : List Int) : Prop := Blk w' g 39 #[.int .i64 sz, .slice X l.length xc] ∧ w2.heap.size ≤ g ∧ Rs w' b X xc l ∧ Below w2.heap.size w2 w'
theorem nextA {w2 w5 : World} {x y : Value} {sz : Int} {b : Nat} {X X' : Option Addr} {xc xc' : Nat} {l l' : List Int} (h0 : Rs w2 b X xc l) (h5 : Rs w5 b X' xc' l')
    (hs : ∀ ad, X' = some ad → X' = X ∨ ((w2.alloc (.cells #[x, y] 39)).drew).heap.size ≤ ad.block) (hb : Below ((w2.alloc (.cells #[x, y] 39)).drew).heap.size (w2.alloc (.cells #[x, y] 39)).drew w5) :
    Nx w2 ((w5.setCell ⟨w2.heap.size, 0, none⟩ (.int .i64 sz)).setCell ⟨w2.heap.size, 1, none⟩ (.slice X' l'.length xc')) sz b w2.heap.size X' xc' l' := by
  have k : Blk w5 w2.heap.size 39 #[x, y] := ((Blk.new w2 39 #[x, y]).drew).below hb (by simp)
  have h : Below w2.heap.size w2 w5 := ((Below.refl _ _).alloc (Nat.le_refl _) _).drew.trans (hb.mono (by simp))
  have hne : ∀ ad, X' = some ad → ad.block ≠ w2.heap.size := by
    intro ad e
    rcases hs ad e with e' | e'
    · have := h0.lt ad (e'.symm.trans e)
      omega
    · simp at e'
      omega
  refine ⟨(k.set_ 0 _).set_ 1 _, Nat.le_refl _, (h5.far hne _).far hne _, ?_⟩
  refine Below.setCell (p := ⟨w2.heap.size, 1, none⟩) ?_ (Nat.le_refl _) _
  exact Below.setCell (p := ⟨w2.heap.size, 0, none⟩) h (Nat.le_refl _) _
theorem nextB {w2 w5 : World} {sz : Int} {b : Nat} {X' : Option Addr} {xc' : Nat} {l' : List Int} (h5 : Rs w5 b X' xc' l') (hb : Below (w2.drew).heap.size w2.drew w5) :
    Nx w2 (w5.alloc (.cells #[.int .i64 sz, .slice X' l'.length xc'] 39)) sz b w5.heap.size X' xc' l' :=
  ⟨Blk.new w5 39 _, hb.size, h5.below ((Below.refl _ _).alloc (Nat.le_refl _) _), ((Below.refl _ w2).drew.trans hb).alloc hb.size _⟩
theorem bcell {W w1 : World} (hb : Below W.heap.size W w1) : (∀ b o, b < W.heap.size → w1.cell? ⟨b, o, none⟩ = W.cell? ⟨b, o, none⟩) ∧ (∀ b o, b < W.heap.size → w1.frozen? ⟨b, o, none⟩ = W.frozen? ⟨b, o, none⟩) :=
  ⟨fun b o h => hb.cell (p := ⟨b, o, none⟩) h, fun b o h => hb.frozen (p := ⟨b, o, none⟩) h⟩
end Go.Proofs.Ytihedeijfofogaa
