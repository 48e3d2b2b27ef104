/- A window against the row of numbers that came: what it answers, by contracts. Conditions: numbers of their kinds. -/
import Derived.Test.YtihedeijfofogaaDMiss
namespace Go.Proofs.Ytihedeijfofogaa
open Go.RowKit Go.Shelf

/-! ### The plain law -/
def topL (l : List Int) : Int := l.foldl max 0
def lstL (l : List Int) : Int := l.foldl min (topL l)
def lookL (sz : Int) (l : List Int) (n : Int) : Int := if l = [] ∨ topL l < n then 0 else if n < bot sz (topL l) then 2 else if n ∈ l then 1 else 0
def inL (sz : Int) (l : List Int) (n : Int) : List Int := if lookL sz l n = 0 then l ++ [n] else l
/-- The numbers from lo up to k that are not in the row. -/
def gap (l : List Int) (lo k : Int) : List Int := ((List.range (k - lo).toNat).map fun i => lo + (i : Nat)).filter fun m => !decide (m ∈ l)
def missL (sz : Int) (l : List Int) : List Int := if l = [] then [] else gap l (max (bot sz (topL l)) (lstL l)) (topL l)

theorem le_foldl_max (l : List Int) : ∀ a, a ≤ l.foldl max a ∧ ∀ x ∈ l, x ≤ l.foldl max a := by
  induction l with
  | nil => intro a; simp
  | cons y l ih =>
    intro a
    obtain ⟨h, g⟩ := ih (max a y)
    simp only [List.foldl_cons]
    refine ⟨by omega, fun x hx => ?_⟩
    rcases List.mem_cons.1 hx with rfl | hx
    · omega
    · exact g x hx
theorem foldl_max_le (l : List Int) : ∀ a u, a ≤ u → (∀ x ∈ l, x ≤ u) → l.foldl max a ≤ u := by
  induction l with
  | nil => intro a u h _; simpa using h
  | cons y l ih =>
    intro a u h g
    exact ih _ _ (by have := g y (by simp); omega) (fun x hx => g x (by simp [hx]))
theorem foldl_min_le (l : List Int) : ∀ a, l.foldl min a ≤ a ∧ ∀ x ∈ l, l.foldl min a ≤ x := by
  induction l with
  | nil => intro a; simp
  | cons y l ih =>
    intro a
    obtain ⟨h, g⟩ := ih (min a y)
    simp only [List.foldl_cons]
    refine ⟨by omega, fun x hx => ?_⟩
    rcases List.mem_cons.1 hx with rfl | hx
    · omega
    · exact g x hx
theorem le_foldl_min (l : List Int) : ∀ a u, u ≤ a → (∀ x ∈ l, u ≤ x) → u ≤ l.foldl min a := by
  induction l with
  | nil => intro a u h _; simpa using h
  | cons y l ih =>
    intro a u h g
    exact ih _ _ (by have := g y (by simp); omega) (fun x hx => g x (by simp [hx]))

theorem topL_ge (l : List Int) : 0 ≤ topL l := (le_foldl_max l 0).1
theorem mem_topL {l : List Int} {x : Int} (h : x ∈ l) : x ≤ topL l := (le_foldl_max l 0).2 x h
theorem topL_le {l : List Int} {u : Int} (u0 : 0 ≤ u) (h : ∀ x ∈ l, x ≤ u) : topL l ≤ u := foldl_max_le l 0 u u0 h
theorem topL_snoc (l : List Int) (n : Int) : topL (l ++ [n]) = max (topL l) n := by simp [topL]
theorem topL_mem {l : List Int} (h : l ≠ []) (h0 : ∀ x ∈ l, 0 ≤ x) : topL l ∈ l := by
  have key : ∀ (l : List Int) (a : Int), l.foldl max a = a ∨ l.foldl max a ∈ l := by
    intro l
    induction l with
    | nil => intro a; simp
    | cons y l ih =>
      intro a
      simp only [List.foldl_cons]
      rcases ih (max a y) with e | e
      · rw [e]
        rcases Int.le_total a y with g | g
        · rw [Int.max_eq_right g]; right; simp
        · rw [Int.max_eq_left g]; left; rfl
      · right; simp [e]
  cases l with
  | nil => exact absurd rfl h
  | cons y l =>
    have hy := h0 y (by simp)
    unfold topL
    simp only [List.foldl_cons]
    rw [Int.max_eq_right hy]
    rcases key l y with e | e
    · rw [e]; simp
    · simp [e]
theorem lstL_le_top (l : List Int) : lstL l ≤ topL l := (foldl_min_le l _).1
theorem lstL_le {l : List Int} {x : Int} (h : x ∈ l) : lstL l ≤ x := (foldl_min_le l _).2 x h
theorem lstL_ge {l : List Int} (h : ∀ x ∈ l, 0 ≤ x) : 0 ≤ lstL l := le_foldl_min l _ _ (topL_ge l) h
theorem lstL_snoc (l : List Int) (n : Int) (h : l ≠ []) (h0 : ∀ x ∈ l, 0 ≤ x) : lstL (l ++ [n]) = min (lstL l) n := by
  have hm := topL_mem h h0
  refine Int.le_antisymm ?_ ?_
  · refine (Int.le_min).2 ⟨?_, lstL_le (by simp)⟩
    exact le_foldl_min l _ _ (lstL_le (by simp [hm])) (fun x hx => lstL_le (by simp [hx]))
  · refine le_foldl_min _ _ _ ?_ ?_
    · rw [topL_snoc]
      have := lstL_le_top l
      omega
    · intro x hx
      rcases List.mem_append.1 hx with hx | hx
      · have := lstL_le hx
        omega
      · simp at hx; omega
theorem topL_one (n : Int) (h : 0 ≤ n) : topL [n] = n := by simp [topL]; omega
theorem lstL_one (n : Int) (h : 0 ≤ n) : lstL [n] = n := by simp [lstL, topL_one n h]

/-- The digits say what came, within reach. -/
def Rel (c : Nat → Nat) (l : List Int) : Prop := (∀ i, c i < 18446744073709551616) ∧ (∀ x ∈ l, 0 ≤ x ∧ x ≤ 18446744073709551615) ∧ (l = [] → ∀ m, S c m = false) ∧ ∀ m, topL l - 1024 < m → 0 ≤ m → m ≤ topL l → S c m = decide (m ∈ l)
theorem rel_nil : Rel (fun _ => 0) [] := by
  refine ⟨fun _ => by show 0 < _; omega, by simp, fun _ m => by simp [S], fun m _ _ _ => by simp [S]⟩
theorem rel_top {c : Nat → Nat} {l : List Int} (h : Rel c l) : 0 ≤ topL l ∧ topL l ≤ 18446744073709551615 := ⟨topL_ge l, topL_le (by omega) fun x hx => (h.2.1 x hx).2⟩
theorem rel_lst {c : Nat → Nat} {l : List Int} (h : Rel c l) : 0 ≤ lstL l ∧ lstL l ≤ topL l := ⟨lstL_ge fun x hx => (h.2.1 x hx).1, lstL_le_top l⟩
theorem lk_lookL {c : Nat → Nat} {l : List Int} (h : Rel c l) (sz n : Int) (s1 : sz ≤ 1024) (n0 : 0 ≤ n) : lk sz (topL l) (!l.isEmpty) c n = lookL sz l n := by
  unfold lk lookL
  by_cases hl : l = []
  · subst hl; simp
  · have e : (!l.isEmpty) = true := by cases l; exact absurd rfl hl; rfl
    rw [e]
    by_cases h1 : topL l < n
    · rw [if_pos (.inr h1), if_pos (.inr h1)]
    · rw [if_neg (show ¬ (true = false ∨ topL l < n) by simp; omega), if_neg (show ¬ (l = [] ∨ topL l < n) by rintro (h | h); exact hl h; exact h1 h)]
      by_cases h2 : n < bot sz (topL l)
      · rw [if_pos h2, if_pos h2]
      · rw [if_neg h2, if_neg h2]
        have : topL l - 1024 < n := by unfold bot at h2; split at h2 <;> omega
        rw [h.2.2.2 n this n0 (by omega)]
        by_cases hm : n ∈ l <;> simp [hm]
theorem mi_missL {c : Nat → Nat} {l : List Int} (h : Rel c l) (sz : Int) (s1 : sz ≤ 1024) : mi sz (topL l) (lstL l) (!l.isEmpty) c = missL sz l := by
  unfold mi missL
  by_cases hl : l = []
  · subst hl; simp
  · have e : (!l.isEmpty) = true := by cases l; exact absurd rfl hl; rfl
    rw [e, if_pos rfl, if_neg hl]
    unfold news gap
    refine List.filter_congr fun m hm => ?_
    obtain ⟨i, hi, rfl⟩ := List.mem_map.1 hm
    rw [List.mem_range] at hi
    have h0 := (rel_lst h).1
    rw [h.2.2.2 _ (by unfold bot at hi ⊢; split at hi <;> split <;> omega) (by omega) (by omega)]
theorem rel_came {c c' : Nat → Nat} {l : List Int} {n top' : Int} (h : Rel c l) (n0 : 0 ≤ n) (n1 : n ≤ 18446744073709551615) (ht : top' = max (topL l) n)
    (hC : Came c c' (topL l) top' n (!l.isEmpty)) : Rel c' (l ++ [n]) := by
  refine ⟨hC.1, ?_, by simp, ?_⟩
  · intro x hx
    rcases List.mem_append.1 hx with hx | hx
    · exact h.2.1 x hx
    · simp at hx; omega
  · rw [topL_snoc, ← ht]
    intro m a b g
    rw [hC.2 m a b g]
    by_cases hl : l = []
    · subst hl; simp
    · have e : (!l.isEmpty) = true := by cases l; exact absurd rfl hl; rfl
      rw [e]
      by_cases hm : m ≤ topL l
      · rw [h.2.2.2 m (by omega) b hm]
        simp only [hm, decide_true, Bool.true_and]
        rw [Bool.eq_iff_iff]
        simp [or_comm]
      · have hn : m ∉ l := fun hx => hm (mem_topL hx)
        simp [hm, hn]

/-- Block b is a window of a size, to which the row's numbers came, and of which counts stand. -/
def Win (w : World) (b : Nat) (sz : Int) (l : List Int) (k0 k1 k2 : Int) : Prop := ∃ c, Rel c l ∧ Blk w b 53 (wc sz (topL l) (lstL l) (!l.isEmpty) c k0 k1 k2)
theorem Win.below {w w' : World} {B b : Nat} {sz : Int} {l : List Int} {k0 k1 k2 : Int} (h : Win w b sz l k0 k1 k2) (hb : Below B w w') (hg : b < B) : Win w' b sz l k0 k1 k2 :=
  let ⟨c, hr, hx⟩ := h; ⟨c, hr, hx.below hb hg⟩
theorem Win.grown {w w' : World} {b : Nat} {sz : Int} {l : List Int} {k0 k1 k2 : Int} {row : Option Nat} (h : Win w b sz l k0 k1 k2) (hb : w.grownBy w' row) (hg : some b ≠ row) : Win w' b sz l k0 k1 k2 :=
  let ⟨c, hr, hx⟩ := h; ⟨c, hr, hx.grown hb hg⟩
theorem Win.drewN {w : World} {b : Nat} {sz : Int} {l : List Int} {k0 k1 k2 : Int} (h : Win w b sz l k0 k1 k2) (n : Nat) : Win (w.drewN n) b sz l k0 k1 k2 := h
theorem Win.lt {w : World} {b : Nat} {sz : Int} {l : List Int} {k0 k1 k2 : Int} (h : Win w b sz l k0 k1 k2) : b < w.heap.size := let ⟨_, _, hx⟩ := h; hx.lt
theorem Win.nums {w : World} {b : Nat} {sz : Int} {l : List Int} {k0 k1 k2 : Int} (h : Win w b sz l k0 k1 k2) : ∀ x ∈ l, 0 ≤ x ∧ x ≤ 18446744073709551615 := let ⟨_, hr, _⟩ := h; hr.2.1

theorem look_win (b : Nat) (sz : Int) (l : List Int) (k0 k1 k2 n : Int) (w : World) (s0 : 1 ≤ sz) (s1 : sz ≤ 1024) (n0 : 0 ≤ n) (n1 : n ≤ 18446744073709551615) (hw : Win w b sz l k0 k1 k2) :
    Calls Try.prog 12 #[.pointer (some ⟨b, 0, none⟩), .int .u64 n] w fun e w' => e = .returned (.int .i64 (lookL sz l n)) ∧ ∃ k, w' = w.drewN k := by
  obtain ⟨c, hr, hx⟩ := hw
  rw [← lk_lookL hr sz n s1 n0]
  exact look_any b sz _ _ _ c k0 k1 k2 n w s0 s1 (rel_top hr).1 (rel_top hr).2 n0 n1 hr.1 hx

/-- What comes is one of three. -/
theorem lookL_cases (sz : Int) (l : List Int) (n : Int) : lookL sz l n = 0 ∨ lookL sz l n = 1 ∨ lookL sz l n = 2 := by unfold lookL; split <;> (try split) <;> (try split) <;> simp
theorem in_win (b : Nat) (sz : Int) (l : List Int) (k0 k1 k2 n : Int) (w : World) (s0 : 1 ≤ sz) (s1 : sz ≤ 1024) (n0 : 0 ≤ n) (n1 : n ≤ 18446744073709551615) (a0 : 0 ≤ k0 ∧ k0 ≤ 1000) (a1 : 0 ≤ k1 ∧ k1 ≤ 1000) (a2 : 0 ≤ k2 ∧ k2 ≤ 1000) (hw : Win w b sz l k0 k1 k2) :
    Calls Try.prog 10 #[.pointer (some ⟨b, 0, none⟩), .int .u64 n] w fun e w' => e = .returned (.int .i64 (lookL sz l n)) ∧ Win w' b sz (inL sz l n) (cu (lookL sz l n) 0 k0) (cu (lookL sz l n) 1 k1) (cu (lookL sz l n) 2 k2) ∧ w.grownBy w' (some b) := by
  obtain ⟨c, hr, hx⟩ := hw
  have ht := rel_top hr
  have hlk := lk_lookL hr sz n s1 n0
  rcases lookL_cases sz l n with h | h | h
  · have hin : inL sz l n = l ++ [n] := by unfold inL; rw [if_pos h]
    have e0 : cu 0 0 k0 = k0 + 1 := rfl
    have e1 : cu 0 1 k1 = k1 := rfl
    have e2 : cu 0 2 k2 = k2 := rfl
    rw [h, hin, e0, e1, e2]
    by_cases hl : l = []
    · subst hl
      refine (in_first b sz _ _ c k0 k1 k2 n w s0 s1 ht.1 ht.2 n0 n1 hr.1 (hr.2.2.1 rfl) a0 hx).mono ?_
      rintro e w' ⟨rfl, c', hC, hb, hg⟩
      refine ⟨rfl, ⟨c', rel_came hr n0 n1 (by simp [topL]; omega) hC, ?_⟩, hg⟩
      rw [List.nil_append, topL_one n n0, lstL_one n n0]
      exact hb
    · have e : (!l.isEmpty) = true := by cases l; exact absurd rfl hl; rfl
      have e' : (!(l ++ [n]).isEmpty) = true := by simp
      rw [e] at hx hlk
      by_cases hn : n ≤ topL l
      · refine (in_low b sz _ _ c k0 k1 k2 n w s0 s1 ht.1 ht.2 n0 n1 hr.1 (hlk.trans h) hn a0 hx).mono ?_
        rintro e w' ⟨rfl, c', hC, hb, hg⟩
        refine ⟨rfl, ⟨c', rel_came hr n0 n1 (top' := topL l) (by omega) (by rw [‹(!l.isEmpty) = true›]; exact hC), ?_⟩, hg⟩
        rw [e', topL_snoc, lstL_snoc l n hl (fun x hx => (hr.2.1 x hx).1), Int.max_eq_left hn]
        exact hb
      · refine (in_high b sz _ _ c k0 k1 k2 n w s0 s1 ht.1 ht.2 n0 n1 hr.1 (by omega) (rel_lst hr).2 a0 hx).mono ?_
        rintro e w' ⟨rfl, c', hC, hb, hg⟩
        refine ⟨rfl, ⟨c', rel_came hr n0 n1 (top' := n) (by omega) (by rw [‹(!l.isEmpty) = true›]; exact hC), ?_⟩, hg⟩
        have := (rel_lst hr).2
        rw [e', topL_snoc, lstL_snoc l n hl (fun x hx => (hr.2.1 x hx).1), Int.max_eq_right (by omega), Int.min_eq_left (by omega)]
        exact hb
  · have hin : inL sz l n = l := by unfold inL; rw [if_neg (by omega)]
    rw [hin]
    exact (in_old b sz _ _ _ c k0 k1 k2 n _ w s0 s1 ht.1 ht.2 n0 n1 hr.1 a1 a2 hlk (.inl h) hx).mono fun e w' g => ⟨g.1, ⟨c, hr, by rw [show cu (lookL sz l n) 0 k0 = k0 by rw [h]; rfl]; exact g.2.1⟩, g.2.2⟩
  · have hin : inL sz l n = l := by unfold inL; rw [if_neg (by omega)]
    rw [hin]
    exact (in_old b sz _ _ _ c k0 k1 k2 n _ w s0 s1 ht.1 ht.2 n0 n1 hr.1 a1 a2 hlk (.inr h) hx).mono fun e w' g => ⟨g.1, ⟨c, hr, by rw [show cu (lookL sz l n) 0 k0 = k0 by rw [h]; rfl]; exact g.2.1⟩, g.2.2⟩
end Go.Proofs.Ytihedeijfofogaa
