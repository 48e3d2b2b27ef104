/- The filter's rules that call, and its frames, by contracts. Conditions: numbers of their kinds. -/
import Derived.Test.YtnodnngakopooaaAFil
namespace Go.Proofs.Ytnodnngakopooaa
open Go.RowKit

theorem clean_any (b : Nat) (f : Fl) (t : Int) (w : World) (h : Fb w b f) (n0 : -1 ≤ f.now) (n3 : f.now ≤ 3) (t3 : t ≤ 3) : Calls Try.prog 48 #[P b, .int .i64 t] w fun e w' => e = .returned (.bool (f.from (f.now + 1) t)) ∧ w = w' := by
  have c7 := (fcells h).2.2.2.2.2.2.2.1
  obtain ⟨s, hs⟩ : ∃ s : Nat, f.now + 1 = s := ⟨(f.now + 1).toNat, by omega⟩
  have hn : f.now = (s : Int) - 1 := by omega
  have s4 : s ≤ 4 := by omega
  have s4' : (s : Int) ≤ 4 := by omega
  rw [hs]
  have HH := Lib.hid h
  rw [hn] at c7
  clear h hs hn n0 n3
  unfold P
  go_enter Try.func48, Try.ntmps48
  go_wp2
  go_loopw [5] (fun v wr => ∃ k : Nat, v = .int .i64 k ∧ k ≤ 4 ∧ f.from s t = f.from k t ∧ w = wr) (fun v _ => 5 - (intOf v).toNat)
  case atStart => exact ⟨s, rfl, s4, rfl, rfl⟩
  case round =>
    obtain ⟨k, rfl, hk, hf, rfl⟩ := hrel
    by_cases hkt : (k : Int) ≤ t
    · have hk3 : k ≤ 3 := by omega
      have hk3' : (k : Int) < 4 := by omega
      have k0 : (0 : Int) ≤ (k : Int) := by omega
      have hc := at_cell HH.out k hk3
      have hhit := from_hit f k t hk3 hkt
      have hmiss := from_miss f k t hk3
      generalize f.at k = m at hc hhit hmiss
      have HF := Lib.hid hf
      clear hf
      cases m
      · go_wp2
        go_roundw
        case rel => exact ⟨k + 1, by simp, by omega, HF.out.trans (hmiss (by trivial)), by trivial⟩
        case measure => simp [intOf]; omega
      · go_wp2
        go_ret
        exact ⟨ret_bool (HF.out.trans (hhit (by trivial))).symm, rfl⟩
    · have he := from_end f k t (by omega)
      have HF := Lib.hid hf
      clear hf
      go_wp2
      go_ret
      exact ⟨ret_bool (HF.out.trans he).symm, rfl⟩
theorem h7_any (b : Nat) (f : Fl) (x : Fa) (t : Int) (w : World) (h : Fb w b f) (n0 : -1 ≤ f.now) (n3 : f.now ≤ 3) (t3 : t ≤ 3) : Calls Try.prog 47 #[P b, .agg x.cells, .int .i64 t] w fun e w' => e = .returned (.bool (x.sync && decide (t ≤ f.asked) && f.from (f.now + 1) t)) ∧ Below w.heap.size w w' := by
  have HC := fun W hW => clean_any b f t W hW n0 n3 t3
  have HH := Lib.hid h
  have c6 := (fcells h).2.2.2.2.2.2.1
  have hl := h.lt
  obtain ⟨key, tid, sync, drop, has, tl0⟩ := x
  simp only [Fa.cells]
  clear h
  generalize f.from (f.now + 1) t = cl at HC ⊢
  unfold P at HC ⊢
  cases sync
  · go_enter Try.func47, Try.ntmps47
    go_wp2
    go_ret
    exact ⟨rfl, (Below.refl _ w).alloc (Nat.le_refl _) _⟩
  by_cases ht : t ≤ f.asked
  · go_enter Try.func47, Try.ntmps47
    go_wp2_with (go_at_call 48; refine (HC _ (HH.out.alloc _)).mono ?_; rintro e w' ⟨rfl, rfl⟩)
    go_ret
    exact ⟨ret_bool (by rw [decide_eq_true ht]; simp), (Below.refl _ w).alloc (Nat.le_refl _) _⟩
  · go_enter Try.func47, Try.ntmps47
    go_wp2
    go_ret
    exact ⟨ret_bool (by rw [show decide (t ≤ f.asked) = false from decide_eq_false (by omega)]; simp), (Below.refl _ w).alloc (Nat.le_refl _) _⟩
/-- A key frame that is let through. -/
def Fl.keyed (f : Fl) (x : Fa) : Fl := { f with now := f.asked, stopped := false, told := x.has, num := x.tl0, m0 := false, m1 := false, m2 := false, m3 := false }
theorem base_any (b : Nat) (f : Fl) (x : Fa) (t : Int) (w : World) (h : Fb w b f) : Calls Try.prog 43 #[P b, .agg x.cells, .int .i64 t] w fun e w' => e = .returned (.int .i64 0) ∧ Fb w' b (f.base x) ∧ w.grownBy w' (some b) := by
  have HF := Lib.hid (fun W hW => follows_any b f x W hW)
  have HH := Lib.hid h
  have hl := h.lt
  clear h
  obtain ⟨key, tid, sync, drop, has, tl0⟩ := x
  simp only [Fa.cells] at HF ⊢
  unfold P at HF ⊢
  go_enter Try.func43, Try.ntmps43
  go_wp2_with fail
  refine (HF.out _ (HH.out.alloc _)).mono ?_
  rintro e w2 ⟨rfl, hf2, hg2⟩
  have HF2 := Lib.hid hf2
  have HG2 := Lib.hid (World.grownBy.trans (only_alloc (World.grownBy.refl w (some b)) _) hg2)
  clear hf2 hg2 HF
  go_wp2_with fail
  go_ret
  exact ⟨rfl, HF2.out, HG2.out⟩
theorem key_any (b : Nat) (f : Fl) (x : Fa) (t : Int) (w : World) (h : Fb w b f) : Calls Try.prog 37 #[P b, .agg x.cells, .int .i64 t] w fun e w' => e = .returned (.int .i64 0) ∧ Fb w' b (f.keyed x) ∧ w.grownBy w' (some b) := by
  have HF := Lib.hid (fun W hW => follows_any b { f with now := f.asked, stopped := false } x W hW)
  have HH := Lib.hid h
  obtain ⟨c0, c1, c2, c3, c4, c5, c6, c7, c8⟩ := fcells h
  have f7 := h.frozen 7
  have f8 := h.frozen 8
  have hl := h.lt
  clear h
  obtain ⟨key, tid, sync, drop, has, tl0⟩ := x
  simp only [Fa.cells] at HF ⊢
  unfold P at HF ⊢
  go_enter Try.func37, Try.ntmps37
  go_wp2_with fail
  refine (HF.out _ (((HH.out.set_ 7 (.int .i64 f.asked)).set_ 8 (.bool false)).alloc _)).mono ?_
  rintro e w2 ⟨rfl, hf2, hg2⟩
  have HF2 := Lib.hid hf2
  have HG2 := Lib.hid (World.grownBy.trans (only_alloc (only_setCell (p := ⟨b, 8, none⟩) (only_setCell (p := ⟨b, 7, none⟩) (World.grownBy.refl w (some b)) (.inl rfl) _) (.inl rfl) _) _) hg2)
  clear hf2 hg2 HF
  go_wp2_with fail
  go_ret
  exact ⟨rfl, HF2.out, HG2.out⟩

/-- A frame's layer, as it counts. -/
def Fa.ly (x : Fa) : Int := if x.key then 0 else min x.tid 3
theorem Fa.ly_bd {x : Fa} (h : x.ok) : 0 ≤ x.ly ∧ x.ly ≤ 3 := by
  obtain ⟨⟨h0, h1⟩, -⟩ := h
  unfold Fa.ly; split <;> omega
/-- When each rule holds. -/
def hold (f : Fl) (x : Fa) : Nat → Bool
  | 0 => x.key && decide (f.asked < 0)
  | 1 => x.key
  | 2 => f.stopped
  | 3 => decide (x.ly = 0) && !(!f.told || !x.has || decide (x.tl0 = (f.num + 1) % 256))
  | 4 => decide (x.ly = 0)
  | 5 => !(!f.told || !x.has || decide (x.tl0 = f.num))
  | 6 => decide (x.ly ≤ f.now)
  | 7 => x.sync && decide (x.ly ≤ f.asked) && f.from (f.now + 1) x.ly
  | _ => true
/-- What each rule does. -/
def act (f : Fl) (x : Fa) : Nat → Fl × Int
  | 0 => (f, 1)
  | 1 => (f.keyed x, 0)
  | 2 => (f, 1)
  | 3 => ({ f with stopped := true }, 2)
  | 4 => (f.base x, 0)
  | 5 => ({ f with stopped := true }, 2)
  | 6 => (f, 0)
  | 7 => ({ f with now := x.ly }, 0)
  | _ => (f.miss x.ly (!x.drop), 1)
/-- The functions that tell when, and those that do. -/
def hf (k : Nat) : Nat := [35, 36, 39, 40, 42, 44, 46, 47, 50].getD k 0
def df (k : Nat) : Nat := [32, 37, 32, 34, 43, 34, 33, 49, 51].getD k 0
/-- What is kept of a filter's numbers. -/
def Fl.ok (f : Fl) : Prop := (0 ≤ f.num ∧ f.num ≤ 255) ∧ (-1 ≤ f.now ∧ f.now ≤ f.asked ∧ f.asked ≤ 3) ∧ (f.now = -1 → f.stopped = true)
theorem hold_any (b : Nat) (f : Fl) (x : Fa) (k : Nat) (w : World) (hk : k < 9) (h : Fb w b f) (hx : x.ok) (hf' : f.ok) : Calls Try.prog (hf k) #[P b, .agg x.cells, .int .i64 x.ly] w fun e w' => e = .returned (.bool (hold f x k)) ∧ Below w.heap.size w w' := by
  have hl := x.ly_bd hx
  obtain ⟨⟨n0, n1⟩, ⟨m0, m1, m2⟩, -⟩ := hf'
  rcases (show k = 0 ∨ k = 1 ∨ k = 2 ∨ k = 3 ∨ k = 4 ∨ k = 5 ∨ k = 6 ∨ k = 7 ∨ k = 8 by omega) with rfl | rfl | rfl | rfl | rfl | rfl | rfl | rfl | rfl
  · exact h0_any b f x _ w h
  · exact h1_any b f x _ w h
  · exact h2_any b f x _ w h
  · by_cases ht : x.ly = 0
    · have := h3_any b f x w h hx n0 n1
      show Calls Try.prog 40 #[P b, .agg x.cells, .int .i64 x.ly] w _
      rw [ht]
      refine this.mono ?_
      rintro e w' ⟨rfl, hb⟩
      exact ⟨ret_bool (by simp [hold, ht]), hb⟩
    · refine (h3_no b f x _ w ht h).mono ?_
      rintro e w' ⟨rfl, hb⟩
      exact ⟨ret_bool (by simp [hold, ht]), hb⟩
  · exact h4_any b f x _ w h
  · exact h5_any b f x _ w h
  · exact h6_any b f x _ w h
  · exact h7_any b f x _ w h m0 (by omega) hl.2
  · exact h8_any b f x _ w h
theorem act_any (b : Nat) (f : Fl) (x : Fa) (k : Nat) (w : World) (hk : k < 9) (h : Fb w b f) (hx : x.ok) (h8 : k = 8 → 1 ≤ x.ly) : Calls Try.prog (df k) #[P b, .agg x.cells, .int .i64 x.ly] w fun e w' => e = .returned (.int .i64 (act f x k).2) ∧ Fb w' b (act f x k).1 ∧ w.grownBy w' (some b) := by
  have hl := x.ly_bd hx
  rcases (show k = 0 ∨ k = 1 ∨ k = 2 ∨ k = 3 ∨ k = 4 ∨ k = 5 ∨ k = 6 ∨ k = 7 ∨ k = 8 by omega) with rfl | rfl | rfl | rfl | rfl | rfl | rfl | rfl | rfl
  · exact (drop_any b x _ w).mono fun e w' g => ⟨g.1, h.below g.2 h.lt, only_of_below g.2 _⟩
  · exact key_any b f x _ w h
  · exact (drop_any b x _ w).mono fun e w' g => ⟨g.1, h.below g.2 h.lt, only_of_below g.2 _⟩
  · exact stop_any b f x _ w h
  · exact base_any b f x _ w h
  · exact stop_any b f x _ w h
  · exact (emit_any b x _ w).mono fun e w' g => ⟨g.1, h.below g.2 h.lt, only_of_below g.2 _⟩
  · exact sync_any b f x _ w h
  · have h1 := h8 rfl
    show Calls Try.prog 51 #[P b, .agg x.cells, .int .i64 x.ly] w fun e w' => e = .returned (.int .i64 1) ∧ Fb w' b (f.miss x.ly (!x.drop)) ∧ w.grownBy w' (some b)
    rcases (show x.ly = 1 ∨ x.ly = 2 ∨ x.ly = 3 by omega) with e | e | e
    · rw [e]; exact miss1_any b f x w h
    · rw [e]; exact miss2_any b f x w h
    · rw [e]; exact miss3_any b f x w h

abbrev fn (k : Nat) : Value := .func (.func k) #[] #[]
def rl : Array Value := #[fn 35, fn 32, fn 36, fn 37, fn 39, fn 32, fn 40, fn 34, fn 42, fn 43, fn 44, fn 34, fn 46, fn 33, fn 47, fn 49, fn 50, fn 51]
theorem rl_at (k : Nat) (h : k < 9) : rl[k * 2]? = some (fn (hf k)) ∧ rl[k * 2 + 1]? = some (fn (df k)) := by
  rcases (show k = 0 ∨ k = 1 ∨ k = 2 ∨ k = 3 ∨ k = 4 ∨ k = 5 ∨ k = 6 ∨ k = 7 ∨ k = 8 by omega) with rfl | rfl | rfl | rfl | rfl | rfl | rfl | rfl | rfl <;> exact ⟨rfl, rfl⟩
theorem rules_any (w : World) : Calls Try.prog 28 #[] w fun e w' => e = .returned (.slice (some ⟨w.heap.size, 0, none⟩) 9 9) ∧ w' = w.alloc (.cells rl 65) := by
  go_enter Try.func28, Try.ntmps28
  go_wp2
  go_ret
  exact ⟨rfl, rfl⟩
/-- The first rule that holds. -/
def rule (f : Fl) (x : Fa) : Nat := if hold f x 0 then 0 else if hold f x 1 then 1 else if hold f x 2 then 2 else if hold f x 3 then 3 else if hold f x 4 then 4 else if hold f x 5 then 5 else if hold f x 6 then 6 else if hold f x 7 then 7 else 8
theorem rule_of {f : Fl} {x : Fa} {k : Nat} (hk : k < 9) (hn : ∀ j, j < k → hold f x j = false) (h : hold f x k = true) : rule f x = k := by
  unfold rule
  rcases (show k = 0 ∨ k = 1 ∨ k = 2 ∨ k = 3 ∨ k = 4 ∨ k = 5 ∨ k = 6 ∨ k = 7 ∨ k = 8 by omega) with rfl | rfl | rfl | rfl | rfl | rfl | rfl | rfl | rfl <;> simp_all
end Go.Proofs.Ytnodnngakopooaa
