/- The reference's frame, loss and cap answer as the filter does. Conditions: numbers of their kinds. -/
import Derived.Test.YtnodnngakopooaaLFrm
import Derived.Test.YtnodnngakopooaaMLost
namespace Go.Proofs.Ytnodnngakopooaa
open Go.RowKit

theorem missed_from (f : Fl) (l : Int) (h : 0 ≤ f.now) : missedB f.now f.m1 f.m2 f.m3 l = !(f.from (f.now + 1) l) := by
  have h0 : decide (f.now + 1 ≤ 0) = false := decide_eq_false (by omega)
  have h1 : decide (f.now + 1 ≤ 1) = decide (f.now < 1) := by rw [Bool.eq_iff_iff]; simp only [decide_eq_true_eq]; omega
  have h2 : decide (f.now + 1 ≤ 2) = decide (f.now < 2) := by rw [Bool.eq_iff_iff]; simp only [decide_eq_true_eq]; omega
  have h3 : decide (f.now + 1 ≤ 3) = decide (f.now < 3) := by rw [Bool.eq_iff_iff]; simp only [decide_eq_true_eq]; omega
  unfold missedB Fl.from
  rw [h0, h1, h2, h3]
  cases f.m1 <;> cases f.m2 <;> cases f.m3 <;> simp
theorem miss_rc (f : Fl) (t : Int) (d : Bool) (ht : t = 1 ∨ t = 2 ∨ t = 3) : (f.miss t d).rc = rc f.asked f.now f.stopped f.told f.num (f.m1 || (decide (t = 1) && d)) (f.m2 || (decide (t = 2) && d)) (f.m3 || (decide (t = 3) && d)) := by
  rcases ht with rfl | rfl | rfl <;> cases d <;> simp [Fl.miss, Fl.rc, rc]
theorem miss_rc_true (f : Fl) (t : Int) (ht : t = 1 ∨ t = 2 ∨ t = 3) : (f.miss t true).rc = rc f.asked f.now f.stopped f.told f.num (f.m1 || decide (t = 1)) (f.m2 || decide (t = 2)) (f.m3 || decide (t = 3)) := by
  rw [miss_rc f t true ht]; simp
theorem miss_rc_false (f : Fl) (t : Int) (ht : t = 1 ∨ t = 2 ∨ t = 3) : (f.miss t false).rc = f.rc := by
  rw [miss_rc f t false ht]; simp [Fl.rc]
theorem told_cases {told has : Bool} {p : Prop} [Decidable p] (h : (!(!told || !has || decide p)) = false) : (has = true ∧ told = false) ∨ has = false ∨ (has = true ∧ told = true ∧ p) := by
  cases told <;> cases has <;> simp_all
theorem told_not {told has : Bool} {p : Prop} [Decidable p] (h : (!(!told || !has || decide p)) = true) : has = true ∧ told = true ∧ ¬ p := by
  cases told <;> cases has <;> simp_all

theorem rframe_any (f : Fl) (x : Fa) (w : World) (hx : x.ok) (hf : f.ok) : Calls Try.prog 31 #[.agg f.rc, .agg x.cells] w (Fr w (act f x (rule f x)).1.rc (act f x (rule f x)).2) := by
  obtain ⟨hk, hh, hn⟩ := rule_spec f x
  have hly := x.ly_bd hx
  generalize rule f x = k at hk hh hn ⊢
  obtain ⟨⟨n0, n1⟩, ⟨b0, b1, b2⟩, hst⟩ := hf
  have hnow : f.stopped = false → 0 ≤ f.now := by
    intro hs
    rcases Int.lt_or_le f.now 0 with h | h
    · have := hst (by omega); rw [hs] at this; cases this
    · exact h
  have hkey0 : x.key = true → x.ly = 0 := by intro h; unfold Fa.ly; rw [if_pos h]
  have hfrom : f.stopped = false → missedB f.now f.m1 f.m2 f.m3 x.ly = !(f.from (f.now + 1) x.ly) := fun h => missed_from f x.ly (hnow h)
  have hmt : 1 ≤ x.ly → (f.miss x.ly true).rc = rc f.asked f.now f.stopped f.told f.num (f.m1 || decide (x.ly = 1)) (f.m2 || decide (x.ly = 2)) (f.m3 || decide (x.ly = 3)) := fun h => miss_rc_true f _ (by omega)
  have hmf : 1 ≤ x.ly → (f.miss x.ly false).rc = f.rc := fun h => miss_rc_false f _ (by omega)
  obtain ⟨l, hl⟩ : ∃ l, x.ly = l := ⟨_, rfl⟩
  rw [hl] at hly hkey0 hfrom hmt hmf
  have hx' := hx
  have hh0 : ∀ j, j < k → hold f x j = false := hn
  have g0 : 1 ≤ k → (x.key && decide (f.asked < 0)) = false := fun h => hn 0 (by omega)
  have g1 : 2 ≤ k → x.key = false := fun h => hn 1 (by omega)
  have g2 : 3 ≤ k → f.stopped = false := fun h => hn 2 (by omega)
  have g3 : 4 ≤ k → (decide (l = 0) && !(!f.told || !x.has || decide (x.tl0 = (f.num + 1) % 256))) = false := fun h => by have := hn 3 (by omega); rw [← hl]; exact this
  have g4 : 5 ≤ k → ¬ l = 0 := fun h => by have : decide (x.ly = 0) = false := hn 4 (by omega); rw [hl] at this; exact of_decide_eq_false this
  have g5 : 6 ≤ k → (!(!f.told || !x.has || decide (x.tl0 = f.num))) = false := fun h => hn 5 (by omega)
  have g6 : 7 ≤ k → ¬ l ≤ f.now := fun h => by have : decide (x.ly ≤ f.now) = false := hn 6 (by omega); rw [hl] at this; exact of_decide_eq_false this
  have g7 : 8 ≤ k → (x.sync && decide (l ≤ f.asked) && f.from (f.now + 1) l) = false := fun h => by have : (x.sync && decide (x.ly ≤ f.asked) && f.from (f.now + 1) x.ly) = false := hn 7 (by omega); rw [hl] at this; exact this
  clear hn hh0
  obtain ⟨told, num, m0, m1, m2, m3, asked, now, stopped⟩ := f
  obtain ⟨key, tid, sync, drop, has, tl0⟩ := x
  simp only at n0 n1 b0 b1 b2 hnow hkey0 hfrom hmt hmf g0 g1 g2 g3 g4 g5 g6 g7
  rcases (show k = 0 ∨ k = 1 ∨ k = 2 ∨ k = 3 ∨ k = 4 ∨ k = 5 ∨ k = 6 ∨ k = 7 ∨ k = 8 by omega) with rfl | rfl | rfl | rfl | rfl | rfl | rfl | rfl | rfl
  · have hh' : (key && decide (asked < 0)) = true := hh
    simp only [Bool.and_eq_true, decide_eq_true_eq] at hh'
    obtain ⟨rfl, ha⟩ := hh'
    obtain rfl := hkey0 rfl
    exact frame0 asked now stopped told num m1 m2 m3 tid sync drop has tl0 w hx' hl ha
  · have hh' : key = true := hh
    subst hh'
    obtain rfl := hkey0 rfl
    have ha : ¬ asked < 0 := by have := g0 (by omega); simpa using this
    exact frame1 asked now stopped told num m1 m2 m3 tid sync drop has tl0 w hx' hl ha
  · have hh' : stopped = true := hh
    subst hh'
    obtain rfl := g1 (by omega)
    exact frame2 asked now told num m1 m2 m3 tid sync drop has tl0 l w hx' hl
  · obtain rfl := g1 (by omega)
    obtain rfl := g2 (by omega)
    have hh' : (decide (Fa.ly ⟨false, tid, sync, drop, has, tl0⟩ = 0) && !(!told || !has || decide (tl0 = (num + 1) % 256))) = true := hh
    rw [hl, Bool.and_eq_true, decide_eq_true_eq] at hh'
    obtain ⟨rfl, hh2⟩ := hh'
    obtain ⟨rfl, rfl, hne⟩ := told_not hh2
    exact frame3 asked now num m1 m2 m3 tid sync drop tl0 w hx' hl n0 n1 hne
  · obtain rfl := g1 (by omega)
    obtain rfl := g2 (by omega)
    have hh' : decide (Fa.ly ⟨false, tid, sync, drop, has, tl0⟩ = 0) = true := hh
    rw [hl, decide_eq_true_eq] at hh'
    subst hh'
    have h3 := g3 (by omega)
    simp only [decide_true, Bool.true_and] at h3
    rcases told_cases h3 with ⟨rfl, rfl⟩ | rfl | ⟨rfl, rfl, rfl⟩
    · exact frame4a asked now num m1 m2 m3 tid sync drop tl0 w hx' hl
    · exact frame4b asked now told num m1 m2 m3 tid sync drop tl0 w hx' hl
    · exact frame4c asked now num m1 m2 m3 tid sync drop w hx' hl n0 n1
  · obtain rfl := g1 (by omega)
    obtain rfl := g2 (by omega)
    have h4 := g4 (by omega)
    have hh' : (!(!told || !has || decide (tl0 = num))) = true := hh
    obtain ⟨rfl, rfl, hne⟩ := told_not hh'
    exact frame5 asked now num m1 m2 m3 tid sync drop tl0 l w hx' hl (by omega) hly.2 hne
  · obtain rfl := g1 (by omega)
    obtain rfl := g2 (by omega)
    have h4 := g4 (by omega)
    have h5 := g5 (by omega)
    have hh' : decide (Fa.ly ⟨false, tid, sync, drop, has, tl0⟩ ≤ now) = true := hh
    rw [hl, decide_eq_true_eq] at hh'
    rcases told_cases h5 with ⟨rfl, rfl⟩ | rfl | ⟨rfl, rfl, rfl⟩
    · exact frame6a asked now num m1 m2 m3 tid sync drop tl0 l w hx' hl (by omega) hly.2 hh'
    · exact frame6b asked now told num m1 m2 m3 tid sync drop tl0 l w hx' hl (by omega) hly.2 hh'
    · exact frame6c asked now _ m1 m2 m3 tid sync drop l w hx' hl (by omega) hly.2 hh'
  · obtain rfl := g1 (by omega)
    obtain rfl := g2 (by omega)
    have h4 := g4 (by omega)
    have h5 := g5 (by omega)
    have h6 := g6 (by omega)
    have hh' : (sync && decide (Fa.ly ⟨false, tid, sync, drop, has, tl0⟩ ≤ asked) && Fl.from ⟨told, num, m0, m1, m2, m3, asked, now, false⟩ (now + 1) (Fa.ly ⟨false, tid, sync, drop, has, tl0⟩)) = true := hh
    rw [hl, Bool.and_eq_true, Bool.and_eq_true, decide_eq_true_eq] at hh'
    obtain ⟨⟨rfl, ha⟩, hfr⟩ := hh'
    have hm := hfrom rfl
    rw [hfr] at hm
    have e : (act ⟨told, num, m0, m1, m2, m3, asked, now, false⟩ ⟨false, tid, true, drop, has, tl0⟩ 7) = (⟨told, num, m0, m1, m2, m3, asked, l, false⟩, 0) := by rw [← hl]; rfl
    rw [e]
    rcases told_cases h5 with ⟨rfl, rfl⟩ | rfl | ⟨rfl, rfl, rfl⟩
    · exact frame7a asked now num m1 m2 m3 tid drop tl0 l w hx' hl (by omega) hly.2 h6 ha hm
    · exact frame7b asked now told num m1 m2 m3 tid drop tl0 l w hx' hl (by omega) hly.2 h6 ha hm
    · exact frame7c asked now _ m1 m2 m3 tid drop l w hx' hl (by omega) hly.2 h6 ha hm
  · obtain rfl := g1 (by omega)
    obtain rfl := g2 (by omega)
    have h4 := g4 (by omega)
    have h5 := g5 (by omega)
    have h6 := g6 (by omega)
    have h7 := g7 (by omega)
    have l1 : 1 ≤ l := by omega
    have hm := hfrom rfl
    have hmt' := hmt l1
    have hmf' := hmf l1
    have hcase : sync = false ∨ sync = true ∧ ¬ l ≤ asked ∨ sync = true ∧ l ≤ asked ∧ missedB now m1 m2 m3 l = true := by
      cases sync
      · exact .inl rfl
      · by_cases ha : l ≤ asked
        · refine .inr (.inr ⟨rfl, ha, ?_⟩)
          rw [hm]
          rw [decide_eq_true ha] at h7
          simpa using h7
        · exact .inr (.inl ⟨rfl, ha⟩)
    have e : (act ⟨told, num, m0, m1, m2, m3, asked, now, false⟩ ⟨false, tid, sync, drop, has, tl0⟩ 8) = (Fl.miss ⟨told, num, m0, m1, m2, m3, asked, now, false⟩ l (!drop), 1) := by rw [← hl]; rfl
    rw [e]
    cases drop
    · show Calls Try.prog 31 #[.agg (rc asked now false told num m1 m2 m3), .agg (xc false tid sync false has tl0)] w (Fr w (Fl.miss ⟨told, num, m0, m1, m2, m3, asked, now, false⟩ l true).rc 1)
      rw [hmt']
      rcases told_cases h5 with ⟨rfl, rfl⟩ | rfl | ⟨rfl, rfl, rfl⟩
      · rcases hcase with rfl | ⟨rfl, ha⟩ | ⟨rfl, ha, hb⟩
        · exact frame8axk asked now num m1 m2 m3 tid tl0 l _ _ _ w hx' hl l1 hly.2 h6 rfl
        · exact frame8ayk asked now num m1 m2 m3 tid tl0 l _ _ _ w hx' hl l1 hly.2 h6 ha rfl
        · exact frame8azk asked now num m1 m2 m3 tid tl0 l _ _ _ w hx' hl l1 hly.2 h6 ha hb rfl
      · rcases hcase with rfl | ⟨rfl, ha⟩ | ⟨rfl, ha, hb⟩
        · exact frame8bxk asked now told num m1 m2 m3 tid tl0 l _ _ _ w hx' hl l1 hly.2 h6 rfl
        · exact frame8byk asked now told num m1 m2 m3 tid tl0 l _ _ _ w hx' hl l1 hly.2 h6 ha rfl
        · exact frame8bzk asked now told num m1 m2 m3 tid tl0 l _ _ _ w hx' hl l1 hly.2 h6 ha hb rfl
      · rcases hcase with rfl | ⟨rfl, ha⟩ | ⟨rfl, ha, hb⟩
        · exact frame8cxk asked now _ m1 m2 m3 tid l _ _ _ w hx' hl l1 hly.2 h6 rfl
        · exact frame8cyk asked now _ m1 m2 m3 tid l _ _ _ w hx' hl l1 hly.2 h6 ha rfl
        · exact frame8czk asked now _ m1 m2 m3 tid l _ _ _ w hx' hl l1 hly.2 h6 ha hb rfl
    · show Calls Try.prog 31 #[.agg (rc asked now false told num m1 m2 m3), .agg (xc false tid sync true has tl0)] w (Fr w (Fl.miss ⟨told, num, m0, m1, m2, m3, asked, now, false⟩ l false).rc 1)
      rw [hmf']
      rcases told_cases h5 with ⟨rfl, rfl⟩ | rfl | ⟨rfl, rfl, rfl⟩
      · rcases hcase with rfl | ⟨rfl, ha⟩ | ⟨rfl, ha, hb⟩
        · exact frame8axd asked now num m1 m2 m3 tid tl0 l w hx' hl l1 hly.2 h6
        · exact frame8ayd asked now num m1 m2 m3 tid tl0 l w hx' hl l1 hly.2 h6 ha
        · exact frame8azd asked now num m1 m2 m3 tid tl0 l w hx' hl l1 hly.2 h6 ha hb
      · rcases hcase with rfl | ⟨rfl, ha⟩ | ⟨rfl, ha, hb⟩
        · exact frame8bxd asked now told num m1 m2 m3 tid tl0 l w hx' hl l1 hly.2 h6
        · exact frame8byd asked now told num m1 m2 m3 tid tl0 l w hx' hl l1 hly.2 h6 ha
        · exact frame8bzd asked now told num m1 m2 m3 tid tl0 l w hx' hl l1 hly.2 h6 ha hb
      · rcases hcase with rfl | ⟨rfl, ha⟩ | ⟨rfl, ha, hb⟩
        · exact frame8cxd asked now _ m1 m2 m3 tid l w hx' hl l1 hly.2 h6
        · exact frame8cyd asked now _ m1 m2 m3 tid l w hx' hl l1 hly.2 h6 ha
        · exact frame8czd asked now _ m1 m2 m3 tid l w hx' hl l1 hly.2 h6 ha hb
theorem rcap_any (f : Fl) (n : Int) (w : World) (hf : f.ok) : Calls Try.prog 30 #[.agg f.rc, .int .i64 n] w (Cr w (f.cap n).rc) := by
  have hc := cap_bd n
  have e : (f.stopped || decide (min f.now (capN n) < 0)) = (f.stopped || decide (min f.now (capN n) = -1)) := by
    have := hf.2.1.1
    rw [show decide (min f.now (capN n) < 0) = decide (min f.now (capN n) = -1) by rw [Bool.eq_iff_iff]; simp only [decide_eq_true_eq]; omega]
  have h := cap_ref f.asked f.now f.stopped f.told f.num f.m1 f.m2 f.m3 n (capN n) (min f.now (capN n)) w (by unfold capN; omega) (by omega)
  rw [← e] at h
  exact h
theorem rlost_any (f : Fl) (known : Bool) (tid : Int) (drop : Bool) (w : World) (t0 : 0 ≤ tid) (t1 : tid ≤ 255) (hf : f.ok) : Calls Try.prog 29 #[.agg f.rc, .bool known, .int .u8 tid, .bool drop] w (Lr w (f.lost known tid drop).1.rc (f.lost known tid drop).2) := by
  obtain ⟨⟨n0, n1⟩, ⟨b0, b1, b2⟩, hst⟩ := hf
  have hmt : ∀ t, t = 1 ∨ t = 2 ∨ t = 3 → (f.miss t true).rc = rc f.asked f.now f.stopped f.told f.num (f.m1 || decide (t = 1)) (f.m2 || decide (t = 2)) (f.m3 || decide (t = 3)) := fun t h => miss_rc_true f _ h
  obtain ⟨told, num, m0, m1, m2, m3, asked, now, stopped⟩ := f
  simp only at n0 n1 b0 b1 b2 hst hmt
  cases stopped
  · have hnow : 0 ≤ now := by
      rcases Int.lt_or_le now 0 with h | h
      · have := hst (by omega); cases this
      · exact h
    rcases Int.lt_or_le 3 tid with h3 | h3
    · have em : min tid 3 = 3 := by omega
      unfold Fl.lost
      rw [em]
      cases known
      · exact lost4b asked now told num m1 m2 m3 tid drop w h3 t1
      · cases drop
        · by_cases hn : 3 > now
          · simp only [Bool.false_eq_true, if_false, Bool.and_false, Bool.true_and, decide_eq_true_eq, if_pos hn]
            rw [hmt 3 (by omega)]
            exact lost3b asked now told num m1 m2 m3 tid _ _ _ w h3 t1 hn rfl
          · simp only [Bool.false_eq_true, if_false, Bool.and_false, Bool.true_and, decide_eq_true_eq, if_neg hn]
            exact lost5b asked now told num m1 m2 m3 tid w h3 t1 hn
        · exact lost2b asked now told num m1 m2 m3 tid w h3 t1
    · have em : min tid 3 = tid := by omega
      unfold Fl.lost
      rw [em]
      cases known
      · exact lost4a asked now told num m1 m2 m3 tid drop w t0 h3
      · cases drop
        · by_cases hn : tid > now
          · simp only [Bool.false_eq_true, if_false, Bool.and_false, Bool.true_and, decide_eq_true_eq, if_pos hn]
            rw [hmt tid (by omega)]
            exact lost3a asked now told num m1 m2 m3 tid _ _ _ w (by omega) h3 hn rfl
          · simp only [Bool.false_eq_true, if_false, Bool.and_false, Bool.true_and, decide_eq_true_eq, if_neg hn]
            exact lost5a asked now told num m1 m2 m3 tid w t0 h3 hn
        · by_cases hz : tid = 0
          · subst hz
            exact lost1 asked now told num m1 m2 m3 w
          · simp only [Bool.false_eq_true, if_false, Bool.and_self, if_true, if_neg hz]
            exact lost2a asked now told num m1 m2 m3 tid w (by omega) h3
  · rcases Int.lt_or_le 3 tid with h3 | h3
    · exact lost0b asked now told num m1 m2 m3 known tid drop w h3 t1
    · exact lost0a asked now told num m1 m2 m3 known tid drop w t0 h3
end Go.Proofs.Ytnodnngakopooaa
