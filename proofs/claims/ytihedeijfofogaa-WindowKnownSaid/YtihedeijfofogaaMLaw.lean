/- The plain law of WindowOnce, in numbers. Conditions: those each states. -/
import Derived.Test.YtihedeijfofogaaKState
namespace Go.Proofs.Ytihedeijfofogaa
open Go.RowKit Go.Shelf

theorem bot_mono {sz t t' : Int} (_s0 : 1 ≤ sz) (h : t ≤ t') : bot sz t ≤ bot sz t' := by
  unfold bot
  split <;> split <;> omega
theorem lookL_ne (sz : Int) (l : List Int) (x : Int) : lookL sz l x ≠ 0 ↔ l ≠ [] ∧ x ≤ topL l ∧ (x < bot sz (topL l) ∨ x ∈ l) := by
  unfold lookL
  by_cases h1 : l = []
  · simp [h1]
  by_cases h2 : topL l < x
  · rw [if_pos (.inr h2)]
    constructor
    · intro h; exact absurd rfl h
    · rintro ⟨-, h, -⟩; omega
  rw [if_neg (by rintro (h | h); exact h1 h; exact h2 h)]
  by_cases h3 : x < bot sz (topL l)
  · rw [if_pos h3]
    exact ⟨fun _ => ⟨h1, by omega, .inl h3⟩, fun _ => by omega⟩
  · rw [if_neg h3]
    by_cases h4 : x ∈ l
    · rw [if_pos h4]
      exact ⟨fun _ => ⟨h1, by omega, .inr h4⟩, fun _ => by omega⟩
    · rw [if_neg h4]
      constructor
      · intro h; exact absurd rfl h
      · rintro ⟨-, -, h | h⟩
        · exact absurd h h3
        · exact absurd h h4
theorem inL_mem {sz : Int} {l : List Int} {y x : Int} (h : x ∈ l) : x ∈ inL sz l y := by unfold inL; split <;> simp [h]
theorem inL_top (sz : Int) (l : List Int) (y : Int) : topL l ≤ topL (inL sz l y) := by
  unfold inL; split
  · rw [topL_snoc]; omega
  · omega
theorem look_keeps {sz : Int} (s0 : 1 ≤ sz) {l : List Int} {y x : Int} (h : lookL sz l x ≠ 0) : lookL sz (inL sz l y) x ≠ 0 := by
  rw [lookL_ne] at h ⊢
  obtain ⟨h1, h2, h3⟩ := h
  have ht := inL_top sz l y
  have hb := bot_mono s0 ht
  refine ⟨fun e => ?_, by omega, ?_⟩
  · cases l with
    | nil => exact h1 rfl
    | cons a l =>
      have : a ∈ inL sz (a :: l) y := inL_mem (by simp)
      rw [e] at this; cases this
  · rcases h3 with h3 | h3
    · left; omega
    · right; exact inL_mem h3
theorem look_self {sz : Int} (l : List Int) (y : Int) : lookL sz (inL sz l y) y ≠ 0 := by
  by_cases h : lookL sz l y = 0
  · rw [lookL_ne]
    have e : inL sz l y = l ++ [y] := by unfold inL; rw [if_pos h]
    rw [e]
    refine ⟨by simp, ?_, .inr (by simp)⟩
    rw [topL_snoc]; omega
  · have e : inL sz l y = l := by unfold inL; rw [if_neg h]
    rw [e]; exact h
theorem seen_fold {sz : Int} (s0 : 1 ≤ sz) : ∀ (zs l : List Int) (x : Int), lookL sz l x ≠ 0 ∨ x ∈ zs → lookL sz (zs.foldl (inL sz) l) x ≠ 0 := by
  intro zs
  induction zs with
  | nil => intro l x h; simpa using h
  | cons y zs ih =>
    intro l x h
    simp only [List.foldl_cons]
    refine ih _ _ ?_
    rcases h with h | h
    · exact .inl (look_keeps s0 h)
    · rcases List.mem_cons.1 h with rfl | h
      · exact .inl (look_self _ _)
      · exact .inr h
theorem seen {sz : Int} (s0 : 1 ≤ sz) {zs : List Int} {x : Int} (h : x ∈ zs) : lookL sz (hist sz zs) x ≠ 0 := seen_fold s0 zs [] x (.inr h)
/-- What came is told Twice, as long as it is within reach. -/
theorem seen_near {sz : Int} (s0 : 1 ≤ sz) {zs : List Int} {x : Int} (h : x ∈ zs) (x0 : 0 ≤ x) : x ≤ topL (hist sz zs) ∧ (topL (hist sz zs) - x < sz → lookL sz (hist sz zs) x = 1) := by
  have hs := seen s0 h
  obtain ⟨h1, h2, h3⟩ := (lookL_ne _ _ _).1 hs
  refine ⟨h2, fun hn => ?_⟩
  have hb : ¬ x < bot sz (topL (hist sz zs)) := by unfold bot; split <;> omega
  have hm : x ∈ hist sz zs := by
    rcases h3 with h3 | h3
    · exact absurd h3 hb
    · exact h3
  unfold lookL
  rw [if_neg (by rintro (h | h); exact h1 h; omega), if_neg hb, if_pos hm]

/-- Numbers within one size of all others. -/
theorem look_near {sz B : Int} (_s0 : 1 ≤ sz) (B0 : 0 ≤ B) {l : List Int} (hl : ∀ x ∈ l, B ≤ x ∧ x < B + sz) {y : Int} (hy : B ≤ y ∧ y < B + sz) : lookL sz l y = if y ∈ l then 1 else 0 := by
  unfold lookL
  by_cases h1 : l = []
  · subst h1; simp
  have ht : topL l < B + sz := by
    have := topL_mem h1 (fun x hx => by have := hl x hx; omega)
    exact (hl _ this).2
  by_cases h2 : topL l < y
  · rw [if_pos (.inr h2), if_neg]
    intro hm; have := mem_topL hm; omega
  · rw [if_neg (by rintro (h | h); exact h1 h; exact h2 h), if_neg]
    unfold bot; split <;> omega
theorem near_fold {sz B : Int} (s0 : 1 ≤ sz) (B0 : 0 ≤ B) : ∀ (ys l : List Int), (∀ x ∈ ys, B ≤ x ∧ x < B + sz) → (∀ x ∈ l, B ≤ x ∧ x < B + sz) → ∀ x, x ∈ ys.foldl (inL sz) l ↔ x ∈ l ∨ x ∈ ys := by
  intro ys
  induction ys with
  | nil => intro l _ _ x; simp
  | cons y ys ih =>
    intro l h g x
    simp only [List.foldl_cons]
    have hy := h y (by simp)
    have key : ∀ x, x ∈ inL sz l y ↔ x ∈ l ∨ x = y := by
      intro x
      unfold inL
      rw [look_near s0 B0 g hy]
      by_cases hm : y ∈ l
      · simp only [hm, if_true]
        rw [if_neg (by omega)]
        constructor
        · exact fun h => .inl h
        · rintro (h | rfl)
          · exact h
          · exact hm
      · simp [hm]
    rw [ih (inL sz l y) (fun x hx => h x (by simp [hx])) (fun x hx => by
      rcases (key x).1 hx with hx | rfl
      · exact g x hx
      · exact hy), key]
    simp [or_assoc]
theorem near_hist {sz B : Int} (s0 : 1 ≤ sz) (B0 : 0 ≤ B) {ys : List Int} (h : ∀ x ∈ ys, B ≤ x ∧ x < B + sz) : (∀ x, x ∈ hist sz ys ↔ x ∈ ys) := by
  intro x
  have := near_fold s0 B0 ys [] h (by simp) x
  simpa [hist] using this
/-- A number brought near. -/
def nr (B sz x : Int) : Int := B + x % sz
theorem nr_in {B sz : Int} (s0 : 1 ≤ sz) (x : Int) : B ≤ nr B sz x ∧ nr B sz x < B + sz := by
  unfold nr
  have := Int.emod_nonneg x (show sz ≠ 0 by omega)
  have := Int.emod_lt_of_pos x (show 0 < sz by omega)
  omega
def nears (B sz : Int) (zs : List Int) : List Int := zs.map (nr B sz)
theorem look_nears {sz B : Int} (s0 : 1 ≤ sz) (B0 : 0 ≤ B) (zs : List Int) (u : Int) : lookL sz (hist sz (nears B sz zs)) (nr B sz u) = if nr B sz u ∈ nears B sz zs then 1 else 0 := by
  have hr : ∀ x ∈ nears B sz zs, B ≤ x ∧ x < B + sz := by
    intro x hx
    obtain ⟨y, -, rfl⟩ := List.mem_map.1 hx
    exact nr_in s0 y
  rw [look_near s0 B0 (fun x hx => hr x ((near_hist s0 B0 hr x).1 hx)) (nr_in s0 u)]
  simp only [near_hist s0 B0 hr]
theorem nears_more {B sz : Int} {zs : List Int} {k : Nat} {u : Int} (h : zs[k]? = some u) : nears B sz (zs.take (k + 1)) = nears B sz (zs.take k) ++ [nr B sz u] := by
  unfold nears; rw [take_more h]; simp
theorem hist_near_more {B sz : Int} {zs : List Int} {k : Nat} {u : Int} (h : zs[k]? = some u) : hist sz (nears B sz (zs.take (k + 1))) = inL sz (hist sz (nears B sz (zs.take k))) (nr B sz u) := by
  rw [nears_more h, hist_snoc]

theorem gap_pairwise (l : List Int) (lo k : Int) : (gap l lo k).Pairwise (· < ·) := by
  unfold gap
  refine List.Pairwise.filter _ ?_
  rw [List.pairwise_map]
  exact List.Pairwise.imp (fun h => by omega) List.pairwise_lt_range
theorem missL_pairwise (sz : Int) (l : List Int) : (missL sz l).Pairwise (· < ·) := by
  unfold missL; split
  · exact List.Pairwise.nil
  · exact gap_pairwise _ _ _
theorem missL_look {sz : Int} {l : List Int} {x : Int} (h : x ∈ missL sz l) : lookL sz l x = 0 ∧ x < topL l := by
  unfold missL at h
  split at h
  · cases h
  · rename_i hl
    unfold gap at h
    obtain ⟨h, hn⟩ := List.mem_filter.1 h
    obtain ⟨i, hi, rfl⟩ := List.mem_map.1 h
    rw [List.mem_range] at hi
    have hn' : max (bot sz (topL l)) (lstL l) + (i : Int) ∉ l := by simpa using hn
    refine ⟨?_, by omega⟩
    unfold lookL
    rw [if_neg (by rintro (h | h); exact hl h; omega), if_neg (by omega), if_neg hn']
theorem cu_sum {s k0 k1 k2 : Int} (h : s = 0 ∨ s = 1 ∨ s = 2) : cu s 0 k0 + cu s 1 k1 + cu s 2 k2 = k0 + k1 + k2 + 1 := by
  rcases h with rfl | rfl | rfl
  · show (k0 + 1) + k1 + k2 = _; omega
  · show k0 + (k1 + 1) + k2 = _; omega
  · show k0 + k1 + (k2 + 1) = _; omega

/-- Is a number, brought near, the first one of its kind? -/
def fst (B sz u : Int) (zs : List Int) (q : Nat) : Bool := decide (nr B sz u ∉ nears B sz (zs.take q))
theorem fst_zero (B sz u : Int) (zs : List Int) : fst B sz u zs 0 = true := by simp [fst, nears]
theorem fst_more {B sz u x : Int} {zs : List Int} {q : Nat} (h : zs[q]? = some x) : fst B sz u zs (q + 1) = (fst B sz u zs q && decide (B + x % sz ≠ B + u % sz)) := by
  unfold fst
  rw [nears_more h]
  have e : nr B sz x = B + x % sz := rfl
  have e' : nr B sz u = B + u % sz := rfl
  rw [e, e']
  generalize B + x % sz = a
  generalize B + u % sz = b
  by_cases hm : b ∈ nears B sz (zs.take q) <;> by_cases hx : a = b <;> simp [hm, hx, eq_comm]
theorem look_fst {sz B : Int} (s0 : 1 ≤ sz) (B0 : 0 ≤ B) (zs : List Int) (u : Int) (k : Nat) : lookL sz (hist sz (nears B sz (zs.take k))) (B + u % sz) = if fst B sz u zs k then 0 else 1 := by
  have h := look_nears s0 B0 (zs.take k) u
  rw [show nr B sz u = B + u % sz from rfl] at h
  rw [h]
  unfold fst
  rw [show nr B sz u = B + u % sz from rfl]
  by_cases hm : B + u % sz ∈ nears B sz (zs.take k) <;> simp [hm]
theorem seen_at {sz : Int} (s0 : 1 ≤ sz) {zs : List Int} {k q : Nat} {u : Int} (hq : q < k) (h : zs[q]? = some u) : lookL sz (hist sz (zs.take k)) u ≠ 0 :=
  seen s0 (List.mem_of_getElem? (i := q) (by rw [List.getElem?_take, if_pos hq]; exact h))
theorem near_at {sz : Int} (s0 : 1 ≤ sz) {zs : List Int} {k q : Nat} {x : Int} (hq : q < k) (h : zs[q]? = some x) (x0 : 0 ≤ x) : x ≤ topL (hist sz (zs.take k)) ∧ (topL (hist sz (zs.take k)) - x < sz → lookL sz (hist sz (zs.take k)) x = 1) :=
  seen_near s0 (List.mem_of_getElem? (i := q) (by rw [List.getElem?_take, if_pos hq]; exact h)) x0
end Go.Proofs.Ytihedeijfofogaa
