/- A frame's fate, by a contract. Conditions: numbers of their kinds. -/
import Derived.Test.YtnodnngakopooaaBFil
import Derived.Laws.EntriesVeiled
import Derived.Shelf.Abstract
namespace Go.Proofs.Ytnodnngakopooaa
open Go.RowKit

theorem enters_hf (k : Nat) (h : k < 9) (args : Array Value) (w : World) : (callFunc (hf k) args).run Try.prog w = .ok (.enter (hf k) args) w := by
  rcases (show k = 0 ∨ k = 1 ∨ k = 2 ∨ k = 3 ∨ k = 4 ∨ k = 5 ∨ k = 6 ∨ k = 7 ∨ k = 8 by omega) with rfl | rfl | rfl | rfl | rfl | rfl | rfl | rfl | rfl
  · exact enters_of Try.func35 (by kernel_rfl) rfl _ _
  · exact enters_of Try.func36 (by kernel_rfl) rfl _ _
  · exact enters_of Try.func39 (by kernel_rfl) rfl _ _
  · exact enters_of Try.func40 (by kernel_rfl) rfl _ _
  · exact enters_of Try.func42 (by kernel_rfl) rfl _ _
  · exact enters_of Try.func44 (by kernel_rfl) rfl _ _
  · exact enters_of Try.func46 (by kernel_rfl) rfl _ _
  · exact enters_of Try.func47 (by kernel_rfl) rfl _ _
  · exact enters_of Try.func50 (by kernel_rfl) rfl _ _
theorem enters_df (k : Nat) (h : k < 9) (args : Array Value) (w : World) : (callFunc (df k) args).run Try.prog w = .ok (.enter (df k) args) w := by
  rcases (show k = 0 ∨ k = 1 ∨ k = 2 ∨ k = 3 ∨ k = 4 ∨ k = 5 ∨ k = 6 ∨ k = 7 ∨ k = 8 by omega) with rfl | rfl | rfl | rfl | rfl | rfl | rfl | rfl | rfl
  · exact enters_of Try.func32 (by kernel_rfl) rfl _ _
  · exact enters_of Try.func37 (by kernel_rfl) rfl _ _
  · exact enters_of Try.func32 (by kernel_rfl) rfl _ _
  · exact enters_of Try.func34 (by kernel_rfl) rfl _ _
  · exact enters_of Try.func43 (by kernel_rfl) rfl _ _
  · exact enters_of Try.func34 (by kernel_rfl) rfl _ _
  · exact enters_of Try.func33 (by kernel_rfl) rfl _ _
  · exact enters_of Try.func49 (by kernel_rfl) rfl _ _
  · exact enters_of Try.func51 (by kernel_rfl) rfl _ _
set_option maxHeartbeats 2000000 in
theorem frame_any (b : Nat) (f : Fl) (x : Fa) (w : World) (h : Fb w b f) (hx : x.ok) (hf' : f.ok) : Calls Try.prog 18 #[P b, .agg x.cells] w fun e w' => e = .returned (.int .i64 (act f x (rule f x)).2) ∧ Fb w' b (act f x (rule f x)).1 ∧ w.grownBy w' (some b) := by
  have HL := fun W => ly_any x W hx
  have HH := Lib.hid h
  have hl := h.lt
  clear h
  unfold P
  rw [show Fa.cells x = #[.bool x.key, .int .u8 x.tid, .bool x.sync, .bool x.drop, .bool x.has, .int .u8 x.tl0] from rfl] at HL ⊢
  rw [show (if x.key then 0 else min x.tid 3) = x.ly from rfl] at HL
  go_enter Try.func18, Try.ntmps18
  go_wp2_with fail
  obtain ⟨w1, hw1⟩ : ∃ w1, w.alloc (.cells #[.bool x.key, .int .u8 x.tid, .bool x.sync, .bool x.drop, .bool x.has, .int .u8 x.tl0] 33) = w1 := ⟨_, rfl⟩
  have hy1 : Blk w1 w.heap.size 33 x.cells := by rw [← hw1]; exact Blk.new w 33 _
  have hb1 : Below w.heap.size w w1 := by rw [← hw1]; exact (Below.refl _ w).alloc (Nat.le_refl _) _
  have hs1 : w1.heap.size = w.heap.size + 1 := by rw [← hw1]; simp
  rw [hw1]
  clear hw1
  refine (HL w1).mono ?_
  rintro e w2 ⟨rfl, hb2⟩
  have hy2 := hy1.below hb2 hy1.lt
  have hb3 := hb1.trans (hb2.mono hb1.size)
  have hs2 := hb2.size
  have HY := Lib.hid hy2
  have HB := Lib.hid hb3
  clear HL hy1 hb1 hb2 hy2 hb3
  go_wp2_with fail
  refine (rules_any w2).mono ?_
  rintro e w3 ⟨rfl, hw3⟩
  have hr3 : Blk w3 w2.heap.size 65 rl := by rw [hw3]; exact Blk.new w2 65 _
  have hb3 : Below w2.heap.size w2 w3 := by rw [hw3]; exact (Below.refl _ w2).alloc (Nat.le_refl _) _
  have hy3 := HY.out.below hb3 HY.out.lt
  have hB3 := HB.out.trans (hb3.mono HB.out.size)
  have HR := Lib.hid hr3
  have HY := Lib.hid hy3
  have HB := Lib.hid hB3
  have hle : w.heap.size ≤ w2.heap.size := by omega
  clear hw3 hr3 hb3 hy3 hB3 hs1 hs2
  go_wp2_with fail
  go_loopw [14] (fun v wr => ∃ k : Nat, v = .int .i64 k ∧ k < 9 ∧ (∀ j, j < k → hold f x j = false) ∧ Blk wr w2.heap.size 65 rl ∧ Blk wr w.heap.size 33 x.cells ∧ Below w.heap.size w wr) (fun v _ => 9 - (intOf v).toNat)
  case atStart => exact ⟨0, rfl, by omega, fun j hj => by omega, HR.out, HY.out, HB.out⟩
  case round =>
    obtain ⟨k, rfl, hk, hn, hr, hy, hb⟩ := hrel
    clear HR HY HB
    obtain ⟨ra, rb⟩ := rl_at k hk
    have c0 : wr.cell? ⟨w2.heap.size, k * 2, none⟩ = some (fn (hf k)) := hr.cell (k * 2) |>.trans ra
    have c1 : wr.cell? ⟨w2.heap.size, k * 2 + 1, none⟩ = some (fn (df k)) := hr.cell (k * 2 + 1) |>.trans rb
    have y0 : wr.cell? ⟨w.heap.size, 0, none⟩ = some (.bool x.key) := hy.cell 0
    have y1 : wr.cell? ⟨w.heap.size, 1, none⟩ = some (.int .u8 x.tid) := hy.cell 1
    have y2 : wr.cell? ⟨w.heap.size, 2, none⟩ = some (.bool x.sync) := hy.cell 2
    have y3 : wr.cell? ⟨w.heap.size, 3, none⟩ = some (.bool x.drop) := hy.cell 3
    have y4 : wr.cell? ⟨w.heap.size, 4, none⟩ = some (.bool x.has) := hy.cell 4
    have y5 : wr.cell? ⟨w.heap.size, 5, none⟩ = some (.int .u8 x.tl0) := hy.cell 5
    have k9 : (k : Int) < 9 := by omega
    have k0 : (0 : Int) ≤ (k : Int) := by omega
    have HR := Lib.hid hr
    have HY := Lib.hid hy
    have HB := Lib.hid hb
    have hsy := hy.lt
    clear hr hy hb ra rb
    have HO := fun W hW => hold_any b f x k W hk hW hx hf'
    have HA := fun W hW h8 => act_any b f x k W hk hW hx h8
    have h8 : hold f x k = true → k = 8 → 1 ≤ x.ly := by
      intro _ e
      have h4 := hn 4 (by omega)
      have hb := x.ly_bd hx
      simp only [hold, decide_eq_false_iff_not] at h4
      omega
    have hrule := fun h => rule_of hk hn h
    have hnext : hold f x k = false → ∀ j, j < k + 1 → hold f x j = false := by
      intro h j hj
      rcases Nat.lt_or_ge j k with h' | h'
      · exact hn j h'
      · rw [show j = k by omega]; exact h
    have hlast : hold f x k = false → k ≠ 8 := by
      intro h e; subst e; simp [hold] at h
    generalize hold f x k = hv at HO h8 hrule hnext hlast
    have HA := Lib.hid HA
    have HO := Lib.hid HO
    have HRU := Lib.hid hrule
    have HNX := Lib.hid hnext
    have HH8 := Lib.hid h8
    have HLA := Lib.hid hlast
    clear hrule hnext h8 hlast hn
    unfold fn at c0 c1
    have hE := enters_hf k hk
    have hD := enters_df k hk
    go_wp2_with fail
    obtain ⟨w4, hw4⟩ : ∃ w4, wr.alloc (.cells #[.func (.func (hf k)) #[] #[], .func (.func (df k)) #[] #[]] 65) = w4 := ⟨_, rfl⟩
    have hz4 : Blk w4 wr.heap.size 65 #[.func (.func (hf k)) #[] #[], .func (.func (df k)) #[] #[]] := by rw [← hw4]; exact Blk.new wr 65 _
    have hb4 : Below wr.heap.size wr w4 := by rw [← hw4]; exact (Below.refl _ wr).alloc (Nat.le_refl _) _
    rw [hw4]
    clear hw4 c0 c1 y0 y1 y2 y3 y4 y5
    have hB4 := HB.out.trans (hb4.mono HB.out.size)
    refine (HO.out w4 (HH.out.below hB4 hl)).mono ?_
    rintro e w5 ⟨rfl, hb5⟩
    have hb45 := hb4.trans (hb5.mono hb4.size)
    have hy5 := HY.out.below hb45 HY.out.lt
    have hz5 := hz4.below hb5 hz4.lt
    have HR5 := Lib.hid (HR.out.below hb45 HR.out.lt)
    have hB5 := HB.out.trans (hb45.mono HB.out.size)
    have HF5 := Lib.hid (HH.out.below hB5 hl)
    have HB5 := Lib.hid hB5
    have y0 : w5.cell? ⟨w.heap.size, 0, none⟩ = some (.bool x.key) := hy5.cell 0
    have y1 : w5.cell? ⟨w.heap.size, 1, none⟩ = some (.int .u8 x.tid) := hy5.cell 1
    have y2 : w5.cell? ⟨w.heap.size, 2, none⟩ = some (.bool x.sync) := hy5.cell 2
    have y3 : w5.cell? ⟨w.heap.size, 3, none⟩ = some (.bool x.drop) := hy5.cell 3
    have y4 : w5.cell? ⟨w.heap.size, 4, none⟩ = some (.bool x.has) := hy5.cell 4
    have y5 : w5.cell? ⟨w.heap.size, 5, none⟩ = some (.int .u8 x.tl0) := hy5.cell 5
    have z1 : w5.cell? ⟨wr.heap.size, 1, none⟩ = some (.func (.func (df k)) #[] #[]) := hz5.cell 1
    have HY5 := Lib.hid hy5
    clear hz4 hb4 hB4 hb5 hb45 hy5 hz5 hB5 HO hE HY HR HB hsy
    cases hv
    · have hk8 := HLA.out (by trivial)
      go_wp2_with fail
      go_roundw
      case rel => exact ⟨k + 1, by simp, by omega, HNX.out (by trivial), HR5.out, HY5.out, HB5.out⟩
      case measure => simp [intOf]; omega
    · go_wp2_with fail
      refine (HA.out w5 HF5.out (HH8.out (by trivial))).mono ?_
      rintro e w6 ⟨rfl, hf6, hg6⟩
      have HF6 := Lib.hid hf6
      have HG6 := Lib.hid (World.grownBy.trans (only_of_below HB5.out (some b)) hg6)
      clear hf6 hg6 HA y0 y1 y2 y3 y4 y5 z1
      have hru := Lib.hid (HRU.out (by trivial))
      go_wp2_with fail
      go_ret
      rw [hru.out]
      exact ⟨rfl, HF6.out, HG6.out⟩
end Go.Proofs.Ytnodnngakopooaa
