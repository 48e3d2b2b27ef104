/- Of what is let through all may be decoded: the walk of the law LayerDecodes. Conditions: none but that each argument is of its kind. -/
import Derived.Test.YtnodnngakopooaaTDec
namespace Go.Proofs.Ytnodnngakopooaa
open Go.RowKit

theorem told_tid (f : Fl) (a : Ac) (ha : a.ok) (p : Pa) (hp : p ∈ told f a) : 0 ≤ p.tid ∧ p.tid ≤ 3 := by
  have hl := a.x.ly_bd ha.1
  have h0 := ha.1.1.1
  unfold told at hp
  split at hp
  · simp only [List.mem_singleton] at hp
    subst hp
    constructor
    · show 0 ≤ min a.x.tid 3; omega
    · show min a.x.tid 3 ≤ 3; omega
  · split at hp
    · cases hp
    · split at hp
      · cases hp
      · simp only [List.mem_singleton] at hp
        subst hp
        exact hl
theorem runs_tid (xs : List Ac) (n : Nat) (h : ∀ (j : Nat) (a : Ac), xs[j]? = some a → a.ok) : ∀ p ∈ (runs (xs.take n)).2, 0 ≤ p.tid ∧ p.tid ≤ 3 := by
  induction n with
  | zero => intro p hp; cases hp
  | succ n ih =>
    rcases Nat.lt_or_ge n xs.length with hn | hn
    · rw [List.take_succ_eq_append_getElem hn, runs_snoc]
      intro p hp
      rcases List.mem_append.1 hp with hp | hp
      · exact ih p hp
      · exact told_tid _ _ (h n _ (List.getElem?_eq_getElem hn)) p hp
    · rw [List.take_of_length_le (by omega : xs.length ≤ n + 1), ← List.take_of_length_le hn]
      exact ih
theorem rowed_pasts {w0 w : World} {v : Value} {ps : List Pa} (h : Rowed w0 w v ps) (hl : ps.length ≤ 150) (ht : ∀ p ∈ ps, 0 ≤ p.tid ∧ p.tid ≤ 3) : ∃ A cap, v = .slice A ps.length cap ∧ Pasts w A ps := by
  have h' := h
  rcases h.2 with ⟨rfl, h0⟩ | ⟨g, cap, cur, rfl, hb, hg, -⟩
  · refine ⟨none, 0, by rw [h0], hl, fun j p hj => ?_⟩
    have := get_lt hj; omega
  · refine ⟨_, cap, rfl, hl, fun j p hj => ⟨_, rfl, (Array.getElem?_eq_some_iff.1 hg).1, (ht p (List.mem_of_getElem? hj)).2, (ht p (List.mem_of_getElem? hj)).1, fun c hc => ?_⟩⟩
    have hat := pcells_at ps j p hj c hc
    have hlc : c < p.cells.length := hc
    rw [List.getElem?_eq_getElem hlc] at hat ⊢
    exact World.ownsRow.cells h' rfl _ _ hat
set_option maxRecDepth 100000 in
theorem decodes_long (A : Option Addr) (len cap : Nat) (w : World) (hl : 150 < len) : Calls Try.prog 3 #[.slice A len cap] w fun e w' => e = .returned (.bool true) ∧ Below w.heap.size w w' := by
  go_enter Try.func3, Try.ntmps3
  go_wp2_with (first
    | (go_at_call 8; refine (works_any _).mono ?_; rintro e w' ⟨rfl, hb⟩))
  go_ret
  exact ⟨rfl, hb⟩
set_option maxHeartbeats 4000000 in
set_option maxRecDepth 100000 in
theorem decodes_main (A : Option Addr) (cap : Nat) (xs : List Ac) (w : World) (hl : xs.length ≤ 150) (hA : Acts w w.heap.size A xs) : Calls Try.prog 3 #[.slice A xs.length cap] w fun e w' => e = .returned (.bool true) ∧ Below w.heap.size w w' := by
  have hok : ∀ (j : Nat) (a : Ac), xs[j]? = some a → a.ok := fun j a hj => ((hA.2 (by have := (List.getElem?_eq_some_iff.1 hj).1; omega)).elim fun _ h => (h.2.2 j a hj).1)
  have hk := runs_kept xs xs.length hok
  have ht := runs_tid xs xs.length hok
  have hn := runs_length xs xs.length
  have hpast := past_any A cap xs w hl hA
  rw [List.take_length] at hk ht hn
  obtain ⟨ps, hps⟩ : ∃ ps, (runs xs).2 = ps := ⟨_, rfl⟩
  rw [hps] at hk ht hn hpast
  have HK := Lib.hid hk.2.2
  have HT := Lib.hid ht
  have HP := Lib.hid hpast
  have hnl : ps.length ≤ 150 := by omega
  clear hps hk ht hn hpast hA hok
  go_enter Try.func3, Try.ntmps3
  go_wp2_with fail
  refine HP.out.mono ?_
  rintro e w1 ⟨v, rfl, hr, hb⟩
  obtain ⟨A', cap', rfl, hpp⟩ := rowed_pasts hr hnl HT.out
  have HB := Lib.hid hb
  have HPP := Lib.hid hpp
  clear hr hb hpp HP HT
  go_wp2_with fail
  go_loopw [4] (fun v wr => ∃ k : Nat, v = .int .i64 k ∧ k ≤ ps.length ∧ Below w.heap.size w wr ∧ Below w1.heap.size w1 wr) (fun v _ => ps.length - (intOf v).toNat)
  case atStart => exact ⟨0, rfl, Nat.zero_le _, HB.out, Below.refl _ _⟩
  case round =>
    obtain ⟨k, rfl, hk, hb, hb1⟩ := hrel
    have HB2 := Lib.hid hb
    have HB3 := Lib.hid hb1
    clear hb hb1
    by_cases hlt : k < ps.length
    · obtain ⟨p, hp⟩ : ∃ p, ps[k]? = some p := ⟨_, List.getElem?_eq_getElem hlt⟩
      have hP2 := pasts_below HPP.out HB3.out
      obtain ⟨ad, rfl, ⟨e0, e1, e2, e3, e4, e5, e6, e7, e8⟩, -, -⟩ := past_cells hP2 hp
      have HP2 := Lib.hid hP2
      have HPK := Lib.hid hp
      have hkk : (k : Int) < ps.length := by omega
      have kk0 : (0 : Int) ≤ (k : Int) := by omega
      clear hP2 hp
      cases ho : p.out
      · rw [ho] at e8
        clear ho
        go_wp2_with fail
        go_roundw
        case rel => exact ⟨k + 1, by simp, by omega, HB2.out, HB3.out⟩
        case measure => simp [intOf]; omega
      · cases hky : p.key
        · have HG := Lib.hid (HK.out k p HPK.out ho hky)
          rw [ho] at e8
          rw [hky] at e2
          clear ho hky
          go_wp2_with fail
          refine (decodes_yes _ cap' k ps p _ HPK.out HP2.out HG.out).mono ?_
          rintro e w2 ⟨rfl, hb⟩
          have HB4 := Lib.hid (HB2.out.trans (hb.mono HB2.out.size))
          have HB5 := Lib.hid (HB3.out.trans (hb.mono HB3.out.size))
          clear hb
          go_wp2_with fail
          go_roundw
          case rel => exact ⟨k + 1, by simp, by omega, HB4.out, HB5.out⟩
          case measure => simp [intOf]; omega
        · rw [ho] at e8
          rw [hky] at e2
          clear ho hky
          go_wp2_with fail
          go_roundw
          case rel => exact ⟨k + 1, by simp, by omega, HB2.out, HB3.out⟩
          case measure => simp [intOf]; omega
    · obtain rfl : k = ps.length := by omega
      go_wp2_with (go_at_call 8; refine (works_any _).mono ?_; rintro e w2 ⟨rfl, hb2⟩; have HB6 := Lib.hid (HB2.out.trans (hb2.mono HB2.out.size)); clear hb2)
      go_ret
      exact ⟨rfl, HB6.out⟩
theorem decodes_any (v : Value) (w : World) (h : IsActs w v) : Calls Try.prog 3 #[v] w fun e w' => e = .returned (.bool true) ∧ Below w.heap.size w w' := by
  obtain ⟨A, cap, xs, rfl, -, -, hA⟩ := h
  rcases Nat.lt_or_ge 150 xs.length with hl | hl
  · exact decodes_long A xs.length cap w hl
  · exact decodes_main A cap xs w hl hA
end Go.Proofs.Ytnodnngakopooaa
