/- The plain law of LayerDecodes: of what a filter lets through all may be decoded. Conditions: numbers of their kinds. -/
import Derived.Test.YtnodnngakopooaaODoes
namespace Go.Proofs.Ytnodnngakopooaa
open Go.RowKit

/-- What came, as it counts, and whether it was let through. -/
structure Pa where
  frame : Bool
  known : Bool
  key : Bool
  tid : Int
  sync : Bool
  drop : Bool
  told : Bool
  tl0 : Int
  out : Bool
def Pa.counts (p : Pa) (a b : Int) : Bool := !(p.out || p.drop) && (!p.known || (decide (a ≤ p.tid) && decide (p.tid ≤ b)))
theorem counts_out {p : Pa} (h : p.out = true) (a b : Int) : p.counts a b = false := by simp [Pa.counts, h]
theorem counts_drop {p : Pa} (h : p.drop = true) (a b : Int) : p.counts a b = false := by simp [Pa.counts, h]
theorem counts_far {p : Pa} (h : p.known = true) {a b : Int} (ht : p.tid < a ∨ b < p.tid) : p.counts a b = false := by
  simp only [Pa.counts, h, Bool.not_true, Bool.false_or, Bool.and_eq_false_imp, decide_eq_true_eq, decide_eq_false_iff_not]
  intro _ h1; omega
theorem counts_less {p : Pa} {a b a' b' : Int} (h : p.counts a b = false) (ha : a ≤ a') (hb : b' ≤ b) : p.counts a' b' = false := by
  unfold Pa.counts at h ⊢
  cases ho : (p.out || p.drop)
  · cases hk : p.known
    · rw [ho, hk] at h; simp at h
    · rw [ho, hk] at h
      simp only [Bool.not_false, Bool.not_true, Bool.false_or, Bool.true_and, Bool.and_eq_false_imp, decide_eq_true_eq, decide_eq_false_iff_not] at h ⊢
      intro h1; have := h (by omega); omega
  · simp
/-- Counts of no single layer, and of no loss that is not known: of none between. -/
theorem counts_each {p : Pa} {t : Int} (h0 : p.counts 0 0 = false) (h : ∀ u, 1 ≤ u → u ≤ t → p.counts u u = false) : p.counts 1 t = false := by
  cases hc : p.counts 1 t
  · rfl
  · have hc' := hc
    unfold Pa.counts at hc
    cases ho : (p.out || p.drop)
    · cases hk : p.known
      · have : p.counts 0 0 = true := by unfold Pa.counts; rw [ho, hk]; rfl
        rw [h0] at this; cases this
      · rw [ho, hk] at hc
        simp only [Bool.not_false, Bool.not_true, Bool.false_or, Bool.true_and, Bool.and_eq_true, decide_eq_true_eq] at hc
        have := h p.tid hc.1 hc.2
        unfold Pa.counts at this
        rw [ho, hk] at this
        simp at this
    · rw [ho] at hc; simp at hc
/-- The key frame, the base, and the latest Sync frame's base. -/
structure Mk where
  key : Int
  base : Int
  sync : Int
def Mk.next (m : Mk) (i : Int) (p : Pa) : Mk :=
  let m1 : Mk := if p.out && p.key then ⟨i, m.base, i⟩ else m
  let m2 : Mk := if p.out && decide (p.tid > 0) && p.sync then ⟨m1.key, m1.base, m1.base⟩ else m1
  if p.known && decide (p.tid = 0) then ⟨m2.key, i, m2.sync⟩ else m2
def marks (ps : List Pa) : Nat → Mk
  | 0 => ⟨-1, -1, -1⟩
  | n + 1 => match ps[n]? with
    | some p => (marks ps n).next n p
    | none => marks ps n
theorem marks_succ (ps : List Pa) (n : Nat) (p : Pa) (h : ps[n]? = some p) : marks ps (n + 1) = (marks ps n).next n p := by
  show (match ps[n]? with | some p => (marks ps n).next n p | none => marks ps n) = _
  rw [h]
theorem marks_append (ps qs : List Pa) (n : Nat) (h : n ≤ ps.length) : marks (ps ++ qs) n = marks ps n := by
  induction n with
  | zero => rfl
  | succ n ih =>
    have e : (ps ++ qs)[n]? = ps[n]? := List.getElem?_append_left (by omega)
    unfold marks
    rw [e, ih (by omega)]
theorem marks_snoc (ps : List Pa) (p : Pa) : marks (ps ++ [p]) (ps ++ [p]).length = (marks ps ps.length).next ps.length p := by
  have e : (ps ++ [p])[ps.length]? = some p := by simp
  rw [show (ps ++ [p]).length = ps.length + 1 by simp, marks_succ _ _ p e, marks_append ps [p] ps.length (Nat.le_refl _)]
/-- What stands at a place may be decoded. -/
def Good (ps : List Pa) (j : Nat) : Prop := ∀ x, ps[j]? = some x →
  0 ≤ (marks ps j).key ∧ (∀ (i : Nat) p, (marks ps j).key ≤ i → i < j → ps[i]? = some p → p.counts 0 0 = false) ∧
  (x.tid = 0 ∨ ∃ (b : Nat) (pb : Pa), (marks ps j).base = b ∧ b < j ∧ ps[b]? = some pb ∧ pb.out = true ∧ ¬ (x.told = true ∧ pb.told = true ∧ ¬ x.tl0 = pb.tl0) ∧
    (x.sync = true ∨ ∀ (i : Nat) p, max (marks ps j).sync (marks ps j).key ≤ i → i < j → ps[i]? = some p → p.counts 1 x.tid = false))
theorem good_append {ps : List Pa} {j : Nat} (qs : List Pa) (h : Good ps j) (hj : j < ps.length) : Good (ps ++ qs) j := by
  intro x hx
  rw [List.getElem?_append_left hj] at hx
  rw [marks_append ps qs j (by omega)]
  obtain ⟨h1, h2, h3⟩ := h x hx
  refine ⟨h1, fun i p hi hlt hp => h2 i p hi hlt (by rw [← hp, List.getElem?_append_left (by omega)]), ?_⟩
  rcases h3 with h3 | ⟨b, pb, e1, e2, e3, e4, e5, e6⟩
  · exact .inl h3
  · refine .inr ⟨b, pb, e1, e2, (List.getElem?_append_left (by omega)).trans e3, e4, e5, ?_⟩
    rcases e6 with e6 | e6
    · exact .inl e6
    · exact .inr fun i p hi hlt hp => e6 i p hi hlt (by rw [← hp, List.getElem?_append_left (by omega)])
/-- What is known of what came while a filter is not stopped. -/
def Live (f : Fl) (ps : List Pa) : Prop := ∃ K S B : Nat, ∃ pb : Pa, marks ps ps.length = ⟨K, B, S⟩ ∧ K ≤ S ∧ S ≤ B ∧ ps[B]? = some pb ∧
  (∀ (i : Nat) p, K ≤ i → ps[i]? = some p → p.counts 0 0 = false) ∧
  (pb.out = true ∧ pb.told = f.told ∧ pb.tl0 = f.num ∨ f.now ≤ 0 ∧ f.m1 = true ∧ f.m2 = true ∧ f.m3 = true) ∧
  (∀ (i : Nat) p, S ≤ i → ps[i]? = some p → p.counts 1 f.now = false) ∧
  (∀ u : Int, u = 1 ∨ u = 2 ∨ u = 3 → f.at u = false ∨ u ≤ f.now → ∀ (i : Nat) p, B ≤ i → ps[i]? = some p → p.counts u u = false)
theorem snoc_cases {ps : List Pa} {p q : Pa} {i : Nat} (h : (ps ++ [p])[i]? = some q) : ps[i]? = some q ∨ i = ps.length ∧ q = p := by
  rcases Nat.lt_or_ge i ps.length with hi | hi
  · rw [List.getElem?_append_left hi] at h; exact .inl h
  · rw [List.getElem?_append_right hi] at h
    rcases Nat.eq_or_lt_of_le hi with e | e
    · refine .inr ⟨e.symm, ?_⟩
      rw [← e, Nat.sub_self] at h
      simpa using h.symm
    · rw [List.getElem?_eq_none (by simp; omega)] at h; cases h
theorem get_lt {ps : List Pa} {i : Nat} {p : Pa} (h : ps[i]? = some p) : i < ps.length := (List.getElem?_eq_some_iff.1 h).1
/-- A key frame that is let through. -/
theorem live_key (ps : List Pa) (p : Pa) (f : Fl) (ho : p.out = true) (hk : p.key = true) (hkn : p.known = true) (ht : p.tid = 0) (h1 : p.told = f.told) (h2 : p.tl0 = f.num) : Live f (ps ++ [p]) := by
  refine ⟨ps.length, ps.length, ps.length, p, ?_, Nat.le_refl _, Nat.le_refl _, by simp, ?_, .inl ⟨ho, h1, h2⟩, ?_, ?_⟩
  · rw [marks_snoc]; simp [Mk.next, ho, hk, hkn, ht]
  · intro i q hi hq
    rcases snoc_cases hq with h | ⟨-, rfl⟩
    · have := get_lt h; omega
    · exact counts_out ho _ _
  · intro i q hi hq
    rcases snoc_cases hq with h | ⟨-, rfl⟩
    · have := get_lt h; omega
    · exact counts_out ho _ _
  · intro u _ _ i q hi hq
    rcases snoc_cases hq with h | ⟨-, rfl⟩
    · have := get_lt h; omega
    · exact counts_out ho _ _
/-- A base that is let through. -/
theorem live_base {ps : List Pa} {f : Fl} (h : Live f ps) (p : Pa) (f' : Fl) (ho : p.out = true) (hk : p.key = false) (hkn : p.known = true) (ht : p.tid = 0) (h1 : p.told = f'.told) (h2 : p.tl0 = f'.num) (hn : f'.now = f.now) : Live f' (ps ++ [p]) ∧ Good (ps ++ [p]) ps.length := by
  obtain ⟨K, S, B, pb, hm, hKS, hSB, hB, i2, hpb, i4, i5⟩ := h
  have hlt := get_lt hB
  constructor
  · refine ⟨K, S, ps.length, p, ?_, hKS, by omega, by simp, ?_, .inl ⟨ho, h1, h2⟩, ?_, ?_⟩
    · rw [marks_snoc, hm]; simp [Mk.next, ho, hk, hkn, ht]
    · intro i q hi hq
      rcases snoc_cases hq with h | ⟨-, rfl⟩
      · exact i2 i q hi h
      · exact counts_out ho _ _
    · intro i q hi hq
      rw [hn]
      rcases snoc_cases hq with h | ⟨-, rfl⟩
      · exact i4 i q hi h
      · exact counts_out ho _ _
    · intro u _ _ i q hi hq
      rcases snoc_cases hq with h | ⟨-, rfl⟩
      · have := get_lt h; omega
      · exact counts_out ho _ _
  · intro x hx
    have e : x = p := by simpa using hx.symm
    subst e
    rw [marks_append ps _ _ (Nat.le_refl _), hm]
    exact ⟨by show (0 : Int) ≤ (K : Int); omega, fun i q hi hl hq => i2 i q (by have : (K : Int) ≤ i := hi; omega) (by rw [← hq, List.getElem?_append_left hl]), .inl ht⟩
/-- A frame of a higher layer that is let through. -/
theorem live_high {ps : List Pa} {f : Fl} (h : Live f ps) (p : Pa) (f' : Fl) (ho : p.out = true) (hk : p.key = false) (ht1 : 1 ≤ p.tid) (ht3 : p.tid ≤ 3)
    (hof : ¬ (p.told = true ∧ f.told = true ∧ ¬ p.tl0 = f.num)) (hf : f' = f ∧ p.tid ≤ f.now ∨ p.sync = true ∧ f' = { f with now := p.tid } ∧ f.now < p.tid ∧ 0 ≤ f.now ∧ ∀ u : Int, f.now < u → u ≤ p.tid → f.at u = false) :
    Live f' (ps ++ [p]) ∧ Good (ps ++ [p]) ps.length := by
  obtain ⟨K, S, B, pb, hm, hKS, hSB, hB, i2, hpb, i4, i5⟩ := h
  have hlt := get_lt hB
  have htd : decide (p.tid > 0) = true := decide_eq_true (by omega)
  have ht0 : decide (p.tid = 0) = false := decide_eq_false (by omega)
  have hout : pb.out = true ∧ pb.told = f.told ∧ pb.tl0 = f.num := by
    rcases hpb with h | ⟨h, m1, m2, m3⟩
    · exact h
    · rcases hf with ⟨-, h'⟩ | ⟨-, -, hlt', h0, hc⟩
      · omega
      · have := hc 1 (by omega) (by omega)
        rw [show f.at 1 = f.m1 from rfl, m1] at this; cases this
  -- of the layers up to the frame's none counts since the base
  have hup : ∀ (i : Nat) q, B ≤ i → ps[i]? = some q → q.counts 1 p.tid = false := by
    intro i q hi hq
    rcases hf with ⟨-, h'⟩ | ⟨-, -, hlt', h0, hc⟩
    · exact counts_less (i4 i q (by omega) hq) (Int.le_refl _) h'
    · refine counts_each (i2 i q (by omega) hq) fun u hu1 hu2 => ?_
      refine i5 u (by omega) ?_ i q hi hq
      rcases Int.lt_or_le f.now u with h | h
      · exact .inl (hc u h hu2)
      · exact .inr h
  have hgood : Good (ps ++ [p]) ps.length := by
    intro x hx
    have e : x = p := by simpa using hx.symm
    subst e
    rw [marks_append ps _ _ (Nat.le_refl _), hm]
    refine ⟨by show (0 : Int) ≤ (K : Int); omega, fun i q hi hl hq => i2 i q (by have : (K : Int) ≤ i := hi; omega) (by rw [← hq, List.getElem?_append_left hl]), .inr ⟨B, pb, rfl, hlt, (List.getElem?_append_left hlt).trans hB, hout.1, ?_, ?_⟩⟩
    · rw [hout.2.1, hout.2.2]; exact hof
    · rcases hf with ⟨-, h'⟩ | ⟨hs, -⟩
      · refine .inr fun i q hi hl hq => counts_less (i4 i q ?_ (by rw [← hq, List.getElem?_append_left hl])) (Int.le_refl _) h'
        have : max (S : Int) (K : Int) ≤ i := hi
        omega
      · exact .inl hs
  refine ⟨?_, hgood⟩
  have hnow : f'.now = f.now ∨ p.sync = true ∧ f'.now = p.tid := by
    rcases hf with ⟨rfl, -⟩ | ⟨hs, rfl, -⟩
    · exact .inl rfl
    · exact .inr ⟨hs, rfl⟩
  have hsame : f'.told = f.told ∧ f'.num = f.num ∧ ∀ u, f'.at u = f.at u := by
    rcases hf with ⟨rfl, -⟩ | ⟨hs, rfl, -⟩
    · exact ⟨rfl, rfl, fun _ => rfl⟩
    · exact ⟨rfl, rfl, fun _ => rfl⟩
  have hup' : ∀ (i : Nat) q, B ≤ i → ps[i]? = some q → q.counts 1 f'.now = false := by
    intro i q hi hq
    rcases hnow with e | ⟨-, e⟩
    · rw [e]; exact i4 i q (by omega) hq
    · rw [e]; exact hup i q hi hq
  cases hs : p.sync
  · have e : f'.now = f.now := by
      rcases hnow with e | ⟨h, -⟩
      · exact e
      · rw [hs] at h; cases h
    refine ⟨K, S, B, pb, ?_, hKS, hSB, (List.getElem?_append_left hlt).trans hB, ?_, .inl ⟨hout.1, by rw [hsame.1]; exact hout.2.1, by rw [hsame.2.1]; exact hout.2.2⟩, ?_, ?_⟩
    · rw [marks_snoc, hm]; simp [Mk.next, ho, hk, ht0, hs]
    · intro i q hi hq
      rcases snoc_cases hq with h | ⟨-, rfl⟩
      · exact i2 i q hi h
      · exact counts_out ho _ _
    · intro i q hi hq
      rcases snoc_cases hq with h | ⟨-, rfl⟩
      · rw [e]; exact i4 i q hi h
      · exact counts_out ho _ _
    · intro u hu hc i q hi hq
      rcases snoc_cases hq with h | ⟨-, rfl⟩
      · rw [hsame.2.2, e] at hc; exact i5 u hu hc i q hi h
      · exact counts_out ho _ _
  · refine ⟨K, B, B, pb, ?_, by omega, Nat.le_refl _, (List.getElem?_append_left hlt).trans hB, ?_, .inl ⟨hout.1, by rw [hsame.1]; exact hout.2.1, by rw [hsame.2.1]; exact hout.2.2⟩, ?_, ?_⟩
    · rw [marks_snoc, hm]; simp [Mk.next, ho, hk, ht0, hs, show 0 < p.tid by omega]
    · intro i q hi hq
      rcases snoc_cases hq with h | ⟨-, rfl⟩
      · exact i2 i q hi h
      · exact counts_out ho _ _
    · intro i q hi hq
      rcases snoc_cases hq with h | ⟨-, rfl⟩
      · exact hup' i q hi h
      · exact counts_out ho _ _
    · intro u hu hc i q hi hq
      rcases snoc_cases hq with h | ⟨-, rfl⟩
      · rcases hc with hc | hc
        · rw [hsame.2.2] at hc; exact i5 u hu (.inl hc) i q hi h
        · exact counts_less (hup' i q hi h) (by omega) hc
      · exact counts_out ho _ _
theorem miss_at (f : Fl) (t : Int) (d : Bool) (u : Int) (hu : u = 1 ∨ u = 2 ∨ u = 3) (ht : t = 1 ∨ t = 2 ∨ t = 3) : (f.miss t d).at u = (f.at u || (decide (u = t) && d)) := by
  rcases hu with rfl | rfl | rfl <;> rcases ht with rfl | rfl | rfl <;> cases d <;> simp [Fl.miss, Fl.at]
/-- A frame or a known loss of a higher layer that is left out. -/
theorem live_miss {ps : List Pa} {f : Fl} (h : Live f ps) (p : Pa) (ho : p.out = false) (hkn : p.known = true) (ht1 : 1 ≤ p.tid) (ht3 : p.tid ≤ 3) (hd : p.drop = true ∨ f.now < p.tid) : Live (f.miss p.tid (!p.drop)) (ps ++ [p]) := by
  obtain ⟨K, S, B, pb, hm, hKS, hSB, hB, i2, hpb, i4, i5⟩ := h
  have hlt := get_lt hB
  have ht0 : decide (p.tid = 0) = false := decide_eq_false (by omega)
  have htt : p.tid = 1 ∨ p.tid = 2 ∨ p.tid = 3 := by omega
  obtain ⟨s1, s2, s3, s4⟩ := miss_same f p.tid (!p.drop)
  have s5 : (f.miss p.tid (!p.drop)).told = f.told := by
    unfold Fl.miss; split
    · rfl
    · split
      · rfl
      · split <;> rfl
  have hat := fun u hu => miss_at f p.tid (!p.drop) u hu htt
  refine ⟨K, S, B, pb, ?_, hKS, hSB, (List.getElem?_append_left hlt).trans hB, ?_, ?_, ?_, ?_⟩
  · rw [marks_snoc, hm]; simp [Mk.next, ho, ht0]
  · intro i q hi hq
    rcases snoc_cases hq with h | ⟨-, rfl⟩
    · exact i2 i q hi h
    · exact counts_far hkn (.inr (by omega))
  · rcases hpb with ⟨e1, e2, e3⟩ | ⟨e0, e1, e2, e3⟩
    · exact .inl ⟨e1, by rw [s5]; exact e2, by rw [s1]; exact e3⟩
    · refine .inr ⟨by rw [s2]; exact e0, ?_, ?_, ?_⟩
      · have := hat 1 (by omega); rw [show f.at 1 = f.m1 from rfl, e1] at this; exact this
      · have := hat 2 (by omega); rw [show f.at 2 = f.m2 from rfl, e2] at this; exact this
      · have := hat 3 (by omega); rw [show f.at 3 = f.m3 from rfl, e3] at this; exact this
  · intro i q hi hq
    rw [s2]
    rcases snoc_cases hq with h | ⟨-, rfl⟩
    · exact i4 i q hi h
    · rcases hd with hd | hd
      · exact counts_drop hd _ _
      · exact counts_far hkn (.inr hd)
  · intro u hu hc i q hi hq
    rw [s2, hat u hu] at hc
    rcases snoc_cases hq with h | ⟨-, rfl⟩
    · refine i5 u hu ?_ i q hi h
      rcases hc with hc | hc
      · exact .inl (by cases hf : f.at u; rfl; rw [hf] at hc; simp at hc)
      · exact .inr hc
    · cases hdr : q.drop
      · rw [hdr] at hc hd
        have hlt' : f.now < q.tid := by rcases hd with h | h; cases h; exact h
        have hne : ¬ u = q.tid := by
          intro e
          rcases hc with hc | hc
          · rw [decide_eq_true e] at hc; simp at hc
          · omega
        exact counts_far hkn (by omega)
      · exact counts_drop hdr _ _
/-- A base that is lost, and does not count. -/
theorem live_zero {ps : List Pa} {f : Fl} (h : Live f ps) (hn : 0 ≤ f.now) (p : Pa) (ho : p.out = false) (hkn : p.known = true) (ht : p.tid = 0) (hd : p.drop = true) : Live { f with now := 0, m0 := false, m1 := true, m2 := true, m3 := true } (ps ++ [p]) := by
  obtain ⟨K, S, B, pb, hm, hKS, hSB, hB, i2, hpb, i4, i5⟩ := h
  have hlt := get_lt hB
  refine ⟨K, S, ps.length, p, ?_, hKS, by omega, by simp, ?_, .inr ⟨Int.le_refl _, rfl, rfl, rfl⟩, ?_, ?_⟩
  · rw [marks_snoc, hm]; simp [Mk.next, ho, hkn, ht]
  · intro i q hi hq
    rcases snoc_cases hq with h | ⟨-, rfl⟩
    · exact i2 i q hi h
    · exact counts_drop hd _ _
  · intro i q hi hq
    rcases snoc_cases hq with h | ⟨-, rfl⟩
    · exact counts_less (i4 i q hi h) (Int.le_refl _) hn
    · exact counts_drop hd _ _
  · intro u hu hc i q hi hq
    rcases hu with rfl | rfl | rfl <;> rcases hc with hc | hc <;> first | (cases hc; done) | (have : (1 : Int) ≤ 0 := hc; omega) | (have : (2 : Int) ≤ 0 := hc; omega) | (have : (3 : Int) ≤ 0 := hc; omega)
/-- A cap. -/
theorem live_cap {ps : List Pa} {f : Fl} (h : Live f ps) (n : Int) : Live (f.cap n) ps := by
  obtain ⟨K, S, B, pb, hm, hKS, hSB, hB, i2, hpb, i4, i5⟩ := h
  have hle : (f.cap n).now ≤ f.now := by show min f.now (capN n) ≤ f.now; omega
  refine ⟨K, S, B, pb, hm, hKS, hSB, hB, i2, ?_, fun i q hi hq => counts_less (i4 i q hi hq) (Int.le_refl _) hle, fun u hu hc => i5 u hu ?_⟩
  · rcases hpb with h | ⟨e0, e⟩
    · exact .inl h
    · exact .inr ⟨by omega, e⟩
  · rcases hc with hc | hc
    · exact .inl hc
    · exact .inr (by omega)
/-- What is told of an act. -/
def told (f : Fl) (a : Ac) : List Pa :=
  if pick a.act 8 = 5 then [⟨false, a.known, false, min a.x.tid 3, false, a.known && a.x.drop, false, 0, false⟩] else if pick a.act 8 = 6 then [] else if pick a.act 8 = 7 then []
  else [⟨true, true, a.x.key, a.x.ly, a.x.sync, a.x.drop, a.x.has, a.x.tl0, decide ((act f a.x (rule f a.x)).2 = 0)⟩]
/-- What is kept of a filter and of what came. -/
def Kept (f : Fl) (ps : List Pa) : Prop := f.ok ∧ (f.stopped = false → Live f ps) ∧ ∀ j x, ps[j]? = some x → x.out = true → x.key = false → Good ps j
theorem kept_snoc {ps : List Pa} (h : ∀ j x, ps[j]? = some x → x.out = true → x.key = false → Good ps j) (p : Pa) (hp : p.out = true → p.key = false → Good (ps ++ [p]) ps.length) :
    ∀ j x, (ps ++ [p])[j]? = some x → x.out = true → x.key = false → Good (ps ++ [p]) j := by
  intro j x hx ho hk
  rcases snoc_cases hx with h' | ⟨rfl, rfl⟩
  · exact good_append _ (h j x h' ho hk) (get_lt h')
  · exact hp ho hk
theorem from_at {f : Fl} {s t : Int} (h : f.from s t = true) {u : Int} (hu : u = 1 ∨ u = 2 ∨ u = 3) (h1 : s ≤ u) (h2 : u ≤ t) : f.at u = false := by
  unfold Fl.from at h
  rcases hu with rfl | rfl | rfl
  · show f.m1 = false
    cases hm : f.m1
    · rfl
    · rw [hm, decide_eq_true h1, decide_eq_true h2] at h; simp at h
  · show f.m2 = false
    cases hm : f.m2
    · rfl
    · rw [hm, decide_eq_true h1, decide_eq_true h2] at h; simp at h
  · show f.m3 = false
    cases hm : f.m3
    · rfl
    · rw [hm, decide_eq_true h1, decide_eq_true h2] at h; simp at h
theorem told_of {told has : Bool} {p : Prop} [Decidable p] (h : (!(!told || !has || decide p)) = false) : ¬ (has = true ∧ told = true ∧ ¬ p) := by
  rintro ⟨rfl, rfl, hp⟩
  simp [hp] at h
theorem kept_frame {f : Fl} {ps : List Pa} (x : Fa) (h : Kept f ps) (hx : x.ok) :
    Kept (act f x (rule f x)).1 (ps ++ [⟨true, true, x.key, x.ly, x.sync, x.drop, x.has, x.tl0, decide ((act f x (rule f x)).2 = 0)⟩]) := by
  obtain ⟨hok, hlive, hgood⟩ := h
  have hfl := frame_law f x hok hx
  refine ⟨hfl.1, ?_⟩
  obtain ⟨hk, hh, hn⟩ := rule_spec f x
  have hly := x.ly_bd hx
  have hnow : f.stopped = false → 0 ≤ f.now := by
    intro hs
    rcases Int.lt_or_le f.now 0 with h | h
    · have := hok.2.2 (by have := hok.2.1.1; omega); rw [hs] at this; cases this
    · exact h
  clear hfl
  generalize rule f x = k at hk hh hn ⊢
  have stop : ∀ (f' : Fl) (v : Int) (l : Int), f'.stopped = true → ¬ v = 0 →
      (f'.stopped = false → Live f' (ps ++ [⟨true, true, x.key, l, x.sync, x.drop, x.has, x.tl0, decide (v = 0)⟩])) ∧
      ∀ j y, (ps ++ [(⟨true, true, x.key, l, x.sync, x.drop, x.has, x.tl0, decide (v = 0)⟩ : Pa)])[j]? = some y → y.out = true → y.key = false → Good (ps ++ [⟨true, true, x.key, l, x.sync, x.drop, x.has, x.tl0, decide (v = 0)⟩]) j := by
    intro f' v l hs hv
    refine ⟨fun h => (by rw [hs] at h; cases h), kept_snoc hgood _ fun ho => ?_⟩
    have ho' : decide (v = 0) = true := ho
    exact absurd (of_decide_eq_true ho') hv
  rcases (show k = 0 ∨ k = 1 ∨ k = 2 ∨ k = 3 ∨ k = 4 ∨ k = 5 ∨ k = 6 ∨ k = 7 ∨ k = 8 by omega) with rfl | rfl | rfl | rfl | rfl | rfl | rfl | rfl | rfl
  · have hh' : (x.key && decide (f.asked < 0)) = true := hh
    simp only [Bool.and_eq_true, decide_eq_true_eq] at hh'
    exact stop f 1 x.ly (hok.2.2 (by have := hok.2.1; omega)) (by omega)
  · have hkey : x.key = true := hh
    have hl0 : x.ly = 0 := by unfold Fa.ly; rw [if_pos hkey]
    refine ⟨fun _ => live_key ps _ _ rfl hkey rfl hl0 rfl rfl, kept_snoc hgood _ fun _ hkk => ?_⟩
    have hkk' : x.key = false := hkk
    rw [hkey] at hkk'; cases hkk'
  · exact stop f 1 x.ly hh (by omega)
  · exact stop { f with stopped := true } 2 x.ly rfl (by omega)
  · have hs : f.stopped = false := hn 2 (by omega)
    have hkey : x.key = false := hn 1 (by omega)
    have hl0 : x.ly = 0 := by have : decide (x.ly = 0) = true := hh; exact of_decide_eq_true this
    have hb := live_base (hlive hs) ⟨true, true, x.key, x.ly, x.sync, x.drop, x.has, x.tl0, decide ((0 : Int) = 0)⟩ (f.base x) rfl hkey rfl hl0 rfl rfl rfl
    exact ⟨fun _ => hb.1, kept_snoc hgood _ fun _ _ => hb.2⟩
  · exact stop { f with stopped := true } 2 x.ly rfl (by omega)
  · have hs : f.stopped = false := hn 2 (by omega)
    have hkey : x.key = false := hn 1 (by omega)
    have h4 : ¬ x.ly = 0 := by have : decide (x.ly = 0) = false := hn 4 (by omega); exact of_decide_eq_false this
    have h6 : x.ly ≤ f.now := by have : decide (x.ly ≤ f.now) = true := hh; exact of_decide_eq_true this
    have h5 := told_of (hn 5 (by omega))
    have hb := live_high (hlive hs) ⟨true, true, x.key, x.ly, x.sync, x.drop, x.has, x.tl0, decide ((0 : Int) = 0)⟩ f rfl hkey (by show 1 ≤ x.ly; omega) hly.2 h5 (.inl ⟨rfl, h6⟩)
    exact ⟨fun _ => hb.1, kept_snoc hgood _ fun _ _ => hb.2⟩
  · have hs : f.stopped = false := hn 2 (by omega)
    have hkey : x.key = false := hn 1 (by omega)
    have h4 : ¬ x.ly = 0 := by have : decide (x.ly = 0) = false := hn 4 (by omega); exact of_decide_eq_false this
    have h6 : ¬ x.ly ≤ f.now := by have : decide (x.ly ≤ f.now) = false := hn 6 (by omega); exact of_decide_eq_false this
    have h5 := told_of (hn 5 (by omega))
    have h7 : (x.sync && decide (x.ly ≤ f.asked) && f.from (f.now + 1) x.ly) = true := hh
    simp only [Bool.and_eq_true, decide_eq_true_eq] at h7
    obtain ⟨⟨hsy, hle⟩, hfr⟩ := h7
    have hb := live_high (hlive hs) ⟨true, true, x.key, x.ly, x.sync, x.drop, x.has, x.tl0, decide ((0 : Int) = 0)⟩ { f with now := x.ly } rfl hkey (by show 1 ≤ x.ly; omega) hly.2 h5
      (.inr ⟨hsy, rfl, by show f.now < x.ly; omega, hnow hs, fun u hu1 hu2 => from_at hfr (by have := hnow hs; have : u ≤ x.ly := hu2; omega) (by omega) hu2⟩)
    exact ⟨fun _ => hb.1, kept_snoc hgood _ fun _ _ => hb.2⟩
  · have hs : f.stopped = false := hn 2 (by omega)
    have h4 : ¬ x.ly = 0 := by have : decide (x.ly = 0) = false := hn 4 (by omega); exact of_decide_eq_false this
    have h6 : ¬ x.ly ≤ f.now := by have : decide (x.ly ≤ f.now) = false := hn 6 (by omega); exact of_decide_eq_false this
    refine ⟨fun _ => live_miss (hlive hs) ⟨true, true, x.key, x.ly, x.sync, x.drop, x.has, x.tl0, decide ((1 : Int) = 0)⟩ rfl rfl (by show 1 ≤ x.ly; omega) hly.2 (.inr (by show f.now < x.ly; omega)), kept_snoc hgood _ fun ho => ?_⟩
    have ho' : decide ((1 : Int) = 0) = true := ho
    simp at ho'
theorem miss_nothing (f : Fl) (t : Int) : f.miss t false = f := by
  unfold Fl.miss
  split
  · simp
  · split
    · simp
    · split
      · simp
      · rfl
theorem kept_lost {f : Fl} {ps : List Pa} (known : Bool) (tid : Int) (drop : Bool) (h : Kept f ps) (t0 : 0 ≤ tid) :
    Kept (f.lost known tid drop).1 (ps ++ [⟨false, known, false, min tid 3, false, known && drop, false, 0, false⟩]) := by
  obtain ⟨hok, hlive, hgood⟩ := h
  refine ⟨(lost_law f known tid drop hok).1, ?_, kept_snoc hgood _ fun ho => (by cases ho)⟩
  have hnow : f.stopped = false → 0 ≤ f.now := by
    intro hs
    rcases Int.lt_or_le f.now 0 with h | h
    · have := hok.2.2 (by have := hok.2.1.1; omega); rw [hs] at this; cases this
    · exact h
  unfold Fl.lost
  cases hs : f.stopped
  · have hl := hlive hs
    rw [if_neg (by simp)]
    cases known
    · simp
    · cases drop
      · by_cases hn : min tid 3 > f.now
        · simp only [Bool.and_false, Bool.false_eq_true, if_false, Bool.true_and, decide_eq_true_eq, if_pos hn]
          intro _
          have hn0 := hnow hs
          exact live_miss hl ⟨false, true, false, min tid 3, false, false, false, 0, false⟩ rfl rfl (by show 1 ≤ min tid 3; omega) (by show min tid 3 ≤ 3; omega) (.inr hn)
        · simp only [Bool.and_false, Bool.false_eq_true, if_false, Bool.true_and, decide_eq_true_eq, if_neg hn]
          intro h; cases h
      · by_cases hz : min tid 3 = 0
        · simp only [Bool.and_self, if_true, if_pos hz]
          intro _
          exact live_zero hl (hnow hs) ⟨false, true, false, min tid 3, false, true, false, 0, false⟩ rfl rfl hz rfl
        · simp only [Bool.and_self, if_true, if_neg hz]
          intro _
          have := live_miss hl ⟨false, true, false, min tid 3, false, true, false, 0, false⟩ rfl rfl (by show 1 ≤ min tid 3; omega) (by show min tid 3 ≤ 3; omega) (.inl rfl)
          simp only [Bool.not_true, miss_nothing] at this
          exact this
  · rw [if_pos rfl]
    intro h
    rw [show ({ f with } : Fl).stopped = f.stopped from rfl, hs] at h; cases h
theorem kept_step {f : Fl} {ps : List Pa} (a : Ac) (h : Kept f ps) (ha : a.ok) : Kept (f.step a) (ps ++ told f a) := by
  unfold Fl.step told
  by_cases h5 : pick a.act 8 = 5
  · rw [if_pos h5, if_pos h5]; exact kept_lost _ _ _ h ha.1.1.1
  · rw [if_neg h5, if_neg h5]
    by_cases h6 : pick a.act 8 = 6
    · rw [if_pos h6, if_pos h6, List.append_nil]
      obtain ⟨hok, hlive, hgood⟩ := h
      refine ⟨(cap_law f a.cap hok).1, fun hs => live_cap (hlive ?_) _, hgood⟩
      have hs' : (f.stopped || decide (min f.now (capN a.cap) < 0)) = false := hs
      rw [Bool.or_eq_false_iff] at hs'
      exact hs'.1
    · rw [if_neg h6, if_neg h6]
      by_cases h7 : pick a.act 8 = 7
      · rw [if_pos h7, if_pos h7, List.append_nil]
        exact ⟨halt_law f h.1, fun hs => (by cases hs), h.2.2⟩
      · rw [if_neg h7, if_neg h7]; exact kept_frame a.x h ha.1
theorem kept_new : Kept new [] := ⟨new_law, fun h => (by cases h), fun j x hx => (by simp at hx)⟩
/-- What a filter makes of acts. -/
def runs (xs : List Ac) : Fl × List Pa := xs.foldl (fun s a => (s.1.step a, s.2 ++ told s.1 a)) (new, [])
theorem runs_snoc (xs : List Ac) (a : Ac) : runs (xs ++ [a]) = ((runs xs).1.step a, (runs xs).2 ++ told (runs xs).1 a) := by
  unfold runs; rw [List.foldl_append]; rfl
theorem told_length (f : Fl) (a : Ac) : (told f a).length ≤ 1 := by
  unfold told
  split
  · simp
  · split
    · simp
    · split <;> simp
theorem runs_length (xs : List Ac) (n : Nat) : (runs (xs.take n)).2.length ≤ n := by
  induction n with
  | zero => simp [runs]
  | succ n ih =>
    rcases Nat.lt_or_ge n xs.length with h | h
    · rw [List.take_succ_eq_append_getElem h, runs_snoc]
      have := told_length (runs (xs.take n)).1 xs[n]
      simp only [List.length_append]; omega
    · rw [List.take_of_length_le (by omega : xs.length ≤ n + 1), ← List.take_of_length_le h]
      omega
theorem runs_kept (xs : List Ac) (n : Nat) (h : ∀ (j : Nat) (a : Ac), xs[j]? = some a → a.ok) : Kept (runs (xs.take n)).1 (runs (xs.take n)).2 := by
  induction n with
  | zero => exact kept_new
  | succ n ih =>
    rcases Nat.lt_or_ge n xs.length with hn | hn
    · rw [List.take_succ_eq_append_getElem hn, runs_snoc]
      exact kept_step _ ih (h n _ (List.getElem?_eq_getElem hn))
    · rw [List.take_of_length_le (by omega : xs.length ≤ n + 1), ← List.take_of_length_le hn]
      exact ih
end Go.Proofs.Ytnodnngakopooaa
