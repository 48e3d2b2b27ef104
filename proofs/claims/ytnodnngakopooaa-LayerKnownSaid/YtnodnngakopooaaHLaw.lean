/- The plain law of a filter: what its functions do to now, asked, stopped. Conditions: those each states. -/
import Derived.Test.YtnodnngakopooaaDFil
namespace Go.Proofs.Ytnodnngakopooaa
open Go.RowKit

theorem rule_spec (f : Fl) (x : Fa) : rule f x ≤ 8 ∧ hold f x (rule f x) = true ∧ ∀ j, j < rule f x → hold f x j = false := by
  have h8 : hold f x 8 = true := rfl
  have key : ∀ k, k ≤ 8 → (∀ j, j < k → hold f x j = false) → hold f x k = true → rule f x ≤ 8 ∧ hold f x (rule f x) = true ∧ ∀ j, j < rule f x → hold f x j = false := by
    intro k hk hn h
    rw [rule_of (by omega) hn h]
    exact ⟨hk, h, hn⟩
  have step : ∀ n k, k + n = 8 → (∀ j, j < k → hold f x j = false) → rule f x ≤ 8 ∧ hold f x (rule f x) = true ∧ ∀ j, j < rule f x → hold f x j = false := by
    intro n
    induction n with
    | zero => intro k hk hn; exact key k (by omega) hn (by rw [show k = 8 by omega]; exact h8)
    | succ n ih =>
      intro k hk hn
      cases h : hold f x k
      · refine ih (k + 1) (by omega) fun j hj => ?_
        rcases Nat.lt_or_ge j k with h' | h'
        · exact hn j h'
        · rw [show j = k by omega]; exact h
      · exact key k (by omega) hn h
  exact step 8 0 (by omega) (fun j hj => by omega)
/-- What a frame's fate says, rule by rule. -/
theorem frame_law (f : Fl) (x : Fa) (hf : f.ok) (hx : x.ok) :
    (act f x (rule f x)).1.ok ∧
    ((act f x (rule f x)).1.now > f.now → (act f x (rule f x)).2 = 0 ∧ (x.key = true ∨ x.sync = true)) ∧
    (f.stopped = true → (act f x (rule f x)).2 = 0 → x.key = true) ∧
    ((act f x (rule f x)).2 = 0 → (act f x (rule f x)).1.stopped = false ∧ x.ly ≤ (act f x (rule f x)).1.now) ∧
    ((act f x (rule f x)).2 = 2 → (act f x (rule f x)).1.stopped = true) := by
  obtain ⟨hk, hh, hn⟩ := rule_spec f x
  obtain ⟨hnum, hbd, hst⟩ := hf
  have hl := x.ly_bd hx
  have htl := hx.2
  generalize rule f x = k at hk hh hn ⊢
  rcases (show k = 0 ∨ k = 1 ∨ k = 2 ∨ k = 3 ∨ k = 4 ∨ k = 5 ∨ k = 6 ∨ k = 7 ∨ k = 8 by omega) with rfl | rfl | rfl | rfl | rfl | rfl | rfl | rfl | rfl
  · exact ⟨⟨hnum, hbd, hst⟩, fun h => absurd h (by show ¬ f.now > f.now; omega), fun _ h => absurd h (by show ¬ (1 : Int) = 0; omega), fun h => absurd h (by show ¬ (1 : Int) = 0; omega), fun h => absurd h (by show ¬ (1 : Int) = 2; omega)⟩
  · have h0 := hn 0 (by omega)
    have hkey : x.key = true := hh
    have ha : ¬ f.asked < 0 := by
      intro h
      have : (x.key && decide (f.asked < 0)) = false := h0
      rw [hkey, decide_eq_true h] at this
      cases this
    refine ⟨⟨htl, ⟨by show -1 ≤ f.asked; omega, by show f.asked ≤ f.asked; omega, hbd.2.2⟩, fun h => absurd h (by show ¬ f.asked = -1; omega)⟩, fun _ => ⟨rfl, .inl hkey⟩, fun _ _ => hkey, fun _ => ⟨rfl, ?_⟩, fun h => absurd h (by show ¬ (0 : Int) = 2; omega)⟩
    show x.ly ≤ f.asked
    have : x.ly = 0 := by unfold Fa.ly; rw [if_pos hkey]
    omega
  · exact ⟨⟨hnum, hbd, hst⟩, fun h => absurd h (by show ¬ f.now > f.now; omega), fun _ h => absurd h (by show ¬ (1 : Int) = 0; omega), fun h => absurd h (by show ¬ (1 : Int) = 0; omega), fun h => absurd h (by show ¬ (1 : Int) = 2; omega)⟩
  · exact ⟨⟨hnum, hbd, fun _ => rfl⟩, fun h => absurd h (by show ¬ f.now > f.now; omega), fun _ h => absurd h (by show ¬ (2 : Int) = 0; omega), fun h => absurd h (by show ¬ (2 : Int) = 0; omega), fun _ => rfl⟩
  · have hs : f.stopped = false := hn 2 (by omega)
    have ht : x.ly = 0 := by
      have : decide (x.ly = 0) = true := hh
      exact of_decide_eq_true this
    have hnow : 0 ≤ f.now := by
      rcases Int.lt_or_le f.now 0 with h | h
      · have := hst (by omega); rw [hs] at this; cases this
      · exact h
    exact ⟨⟨htl, hbd, hst⟩, fun h => absurd h (by show ¬ f.now > f.now; omega), (fun h _ => by rw [hs] at h; cases h), fun _ => ⟨hs, by show x.ly ≤ f.now; omega⟩, fun h => absurd h (by show ¬ (0 : Int) = 2; omega)⟩
  · exact ⟨⟨hnum, hbd, fun _ => rfl⟩, fun h => absurd h (by show ¬ f.now > f.now; omega), fun _ h => absurd h (by show ¬ (2 : Int) = 0; omega), fun h => absurd h (by show ¬ (2 : Int) = 0; omega), fun _ => rfl⟩
  · have hs : f.stopped = false := hn 2 (by omega)
    have ht : x.ly ≤ f.now := by
      have : decide (x.ly ≤ f.now) = true := hh
      exact of_decide_eq_true this
    exact ⟨⟨hnum, hbd, hst⟩, fun h => absurd h (by show ¬ f.now > f.now; omega), (fun h _ => by rw [hs] at h; cases h), fun _ => ⟨hs, ht⟩, fun h => absurd h (by show ¬ (0 : Int) = 2; omega)⟩
  · have hs : f.stopped = false := hn 2 (by omega)
    have h7 : (x.sync && decide (x.ly ≤ f.asked) && f.from (f.now + 1) x.ly) = true := hh
    simp only [Bool.and_eq_true, decide_eq_true_eq] at h7
    obtain ⟨⟨hsy, hle⟩, -⟩ := h7
    exact ⟨⟨hnum, ⟨by show -1 ≤ x.ly; omega, hle, hbd.2.2⟩, fun h => absurd h (by show ¬ x.ly = -1; omega)⟩, fun _ => ⟨rfl, .inr hsy⟩, (fun h _ => by rw [hs] at h; cases h), fun _ => ⟨hs, by show x.ly ≤ x.ly; omega⟩, fun h => absurd h (by show ¬ (0 : Int) = 2; omega)⟩
  · have hm : ∀ d, (f.miss x.ly d).num = f.num ∧ (f.miss x.ly d).now = f.now ∧ (f.miss x.ly d).asked = f.asked ∧ (f.miss x.ly d).stopped = f.stopped := by
      intro d; unfold Fl.miss
      split
      · exact ⟨rfl, rfl, rfl, rfl⟩
      · split
        · exact ⟨rfl, rfl, rfl, rfl⟩
        · split <;> exact ⟨rfl, rfl, rfl, rfl⟩
    obtain ⟨m1, m2, m3, m4⟩ := hm (!x.drop)
    refine ⟨?_, fun h => absurd h (by show ¬ (f.miss x.ly (!x.drop)).now > f.now; omega), fun _ h => absurd h (by show ¬ (1 : Int) = 0; omega), fun h => absurd h (by show ¬ (1 : Int) = 0; omega), fun h => absurd h (by show ¬ (1 : Int) = 2; omega)⟩
    show (f.miss x.ly (!x.drop)).ok
    unfold Fl.ok
    rw [m1, m2, m3, m4]
    exact ⟨hnum, hbd, hst⟩
theorem act_fate (f : Fl) (x : Fa) (k : Nat) : (act f x k).2 = 0 ∨ (act f x k).2 = 1 ∨ (act f x k).2 = 2 := by
  unfold act
  split
  all_goals first | exact .inl rfl | exact .inr (.inl rfl) | exact .inr (.inr rfl)
theorem cap_law (f : Fl) (n : Int) (hf : f.ok) : (f.cap n).ok ∧ (f.cap n).now ≤ f.now := by
  obtain ⟨hnum, hbd, hst⟩ := hf
  have hc := cap_bd n
  refine ⟨⟨hnum, ⟨by show -1 ≤ min f.now (capN n); omega, by show min f.now (capN n) ≤ capN n; omega, hc.2⟩, fun h => ?_⟩, by show min f.now (capN n) ≤ f.now; omega⟩
  have h' : min f.now (capN n) = -1 := h
  show (f.stopped || decide (min f.now (capN n) < 0)) = true
  rw [h']; simp
theorem miss_same (f : Fl) (t : Int) (d : Bool) : (f.miss t d).num = f.num ∧ (f.miss t d).now = f.now ∧ (f.miss t d).asked = f.asked ∧ (f.miss t d).stopped = f.stopped := by
  unfold Fl.miss
  split
  · exact ⟨rfl, rfl, rfl, rfl⟩
  · split
    · exact ⟨rfl, rfl, rfl, rfl⟩
    · split <;> exact ⟨rfl, rfl, rfl, rfl⟩
theorem lost_law (f : Fl) (known : Bool) (tid : Int) (drop : Bool) (hf : f.ok) : (f.lost known tid drop).1.ok ∧ (f.lost known tid drop).1.now ≤ f.now := by
  obtain ⟨hnum, hbd, hst⟩ := hf
  unfold Fl.lost
  cases hs : f.stopped
  · have hnow : 0 ≤ f.now := by
      rcases Int.lt_or_le f.now 0 with h | h
      · have := hst (by omega); rw [hs] at this; cases this
      · exact h
    rw [if_neg (by simp)]
    split
    · split
      · exact ⟨⟨hnum, ⟨by show (-1 : Int) ≤ 0; omega, by show 0 ≤ f.asked; omega, hbd.2.2⟩, fun h => absurd h (by show ¬ (0 : Int) = -1; omega)⟩, by show 0 ≤ f.now; omega⟩
      · exact ⟨⟨hnum, hbd, hst⟩, by show f.now ≤ f.now; omega⟩
    · split
      · obtain ⟨m1, m2, m3, m4⟩ := miss_same f (min tid 3) true
        refine ⟨?_, by show (f.miss (min tid 3) true).now ≤ f.now; omega⟩
        show (f.miss (min tid 3) true).ok
        unfold Fl.ok
        rw [m1, m2, m3, m4]
        exact ⟨hnum, hbd, hst⟩
      · exact ⟨⟨hnum, hbd, fun _ => rfl⟩, by show f.now ≤ f.now; omega⟩
  · rw [if_pos rfl]
    exact ⟨⟨hnum, hbd, hst⟩, by show f.now ≤ f.now; omega⟩
theorem halt_law (f : Fl) (hf : f.ok) : ({ f with stopped := true } : Fl).ok := ⟨hf.1, hf.2.1, fun _ => rfl⟩
theorem new_law : new.ok := ⟨by decide, by decide, by decide⟩
end Go.Proofs.Ytnodnngakopooaa
