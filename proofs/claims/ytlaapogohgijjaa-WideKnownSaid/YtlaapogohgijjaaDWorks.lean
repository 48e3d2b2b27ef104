/- The chapter's examples, which every law ends in: they come out true, and leave what was there alone. Conditions: none. -/
import Derived.Test.YtlaapogohgijjaaCRef
namespace Go.Proofs.Ytlaapogohgijjaa
open Go.RowKit

theorem next_lit {d t n p t' : Int} {g g' : Bool} (h0 : 1 ≤ d) (h1 : d ≤ 32) (t0 : 0 ≤ t) (t1 : t ≤ 18446744073709551615) (n0 : 0 ≤ n) (n1 : n ≤ 4294967295)
    (hp : pk d t g n = p) (hn : nt d t g n = t') (hg : (!g) = g') (b : Nat) (w : World) (hx : Ext w b d t g) :
    Calls Try.prog 19 #[.pointer (some ⟨b, 0, none⟩), .int .u32 n] w fun e w' => e = .returned (.tuple #[.int .u64 p, .bool g']) ∧ Ext w' b d t' true ∧ w.grownBy w' (some b) := by
  subst hp hn hg
  exact next_any b d t g n w h0 h1 t0 t1 n0 n1 hx

/-- The tops behind the examples' numbers. -/
def exTop : Nat → Int | 0 => 0 | 1 => 131070 | 2 => 131071 | 3 => 131073 | 4 => 131073 | 5 => 131073 | _ => 163840
theorem next_lit0 (b : Nat) (w : World) (hx : Ext w b 16 0 false) :
    Calls Try.prog 19 #[.pointer (some ⟨b, 0, none⟩), .int .u32 65534] w fun e w' => e = .returned (.tuple #[.int .u64 131070, .bool true]) ∧ Ext w' b 16 131070 true ∧ w.grownBy w' (some b) :=
  next_lit (by omega) (by omega) (by omega) (by omega) (by omega) (by omega) (by decide +kernel) (by decide +kernel) rfl b w hx
theorem next_lit1 (b : Nat) (w : World) (hx : Ext w b 16 131070 true) :
    Calls Try.prog 19 #[.pointer (some ⟨b, 0, none⟩), .int .u32 65535] w fun e w' => e = .returned (.tuple #[.int .u64 131071, .bool false]) ∧ Ext w' b 16 131071 true ∧ w.grownBy w' (some b) :=
  next_lit (by omega) (by omega) (by omega) (by omega) (by omega) (by omega) (by decide +kernel) (by decide +kernel) rfl b w hx
theorem next_lit2 (b : Nat) (w : World) (hx : Ext w b 16 131071 true) :
    Calls Try.prog 19 #[.pointer (some ⟨b, 0, none⟩), .int .u32 1] w fun e w' => e = .returned (.tuple #[.int .u64 131073, .bool false]) ∧ Ext w' b 16 131073 true ∧ w.grownBy w' (some b) :=
  next_lit (by omega) (by omega) (by omega) (by omega) (by omega) (by omega) (by decide +kernel) (by decide +kernel) rfl b w hx
theorem next_lit3 (b : Nat) (w : World) (hx : Ext w b 16 131073 true) :
    Calls Try.prog 19 #[.pointer (some ⟨b, 0, none⟩), .int .u32 0] w fun e w' => e = .returned (.tuple #[.int .u64 131072, .bool false]) ∧ Ext w' b 16 131073 true ∧ w.grownBy w' (some b) :=
  next_lit (by omega) (by omega) (by omega) (by omega) (by omega) (by omega) (by decide +kernel) (by decide +kernel) rfl b w hx
theorem next_lit4 (b : Nat) (w : World) (hx : Ext w b 16 131073 true) :
    Calls Try.prog 19 #[.pointer (some ⟨b, 0, none⟩), .int .u32 32769] w fun e w' => e = .returned (.tuple #[.int .u64 98305, .bool false]) ∧ Ext w' b 16 131073 true ∧ w.grownBy w' (some b) :=
  next_lit (by omega) (by omega) (by omega) (by omega) (by omega) (by omega) (by decide +kernel) (by decide +kernel) rfl b w hx
theorem next_lit5 (b : Nat) (w : World) (hx : Ext w b 16 131073 true) :
    Calls Try.prog 19 #[.pointer (some ⟨b, 0, none⟩), .int .u32 32768] w fun e w' => e = .returned (.tuple #[.int .u64 163840, .bool false]) ∧ Ext w' b 16 163840 true ∧ w.grownBy w' (some b) :=
  next_lit (by omega) (by omega) (by omega) (by omega) (by omega) (by omega) (by decide +kernel) (by decide +kernel) rfl b w hx
theorem ah_lit : ah 16 1 65535 = true := by decide +kernel
theorem btw_lit : btw 16 65535 1 = 2 := by decide +kernel
theorem ahead_lit (w : World) : Calls Try.prog 8 #[.int .i64 16, .int .u32 1, .int .u32 65535] w fun e w' => e = .returned (.bool true) ∧ w = w' := by
  have h := ahead_yes 16 1 65535 w (by omega) (by omega) (by omega) (by omega) (by omega) (by omega)
  rw [ah_lit] at h; exact h
theorem between_lit (w : World) : Calls Try.prog 10 #[.int .i64 16, .int .u32 65535, .int .u32 1] w fun e w' => e = .returned (.int .u32 2) ∧ w = w' := by
  have h := between_yes 16 65535 1 w (by omega) (by omega) (by omega) (by omega) (by omega) (by omega)
  rw [btw_lit] at h; exact h

set_option maxHeartbeats 1000000 in
theorem works_any (w : World) : Calls Try.prog 12 #[] w fun e w' => e = .returned (.bool true) ∧ Below w.heap.size w w' := by
  go_enter Try.func12, Try.ntmps12
  go_wp2_with fail
  refine (new_yes 16 _ (by omega) (by omega)).mono ?_
  rintro e w1 ⟨rfl, hw1⟩
  have hx0 : Ext w1 w.heap.size 16 0 false := by rw [hw1]; exact heap_alloc_new w _
  have hb0 : Below w.heap.size w w1 := by rw [hw1]; exact (Below.refl _ _).alloc (Nat.le_refl _) _
  have hs : w1.heap.size = w.heap.size + 1 := by rw [hw1]; simp
  clear hw1
  have HX := Lib.hid hx0
  have HB := Lib.hid hb0
  have HS := Lib.hid hs
  clear hx0 hb0 hs
  go_wp2_with fail
  go_loopw [5] (fun i wr => ∃ k : Nat, k ≤ 6 ∧ i = .int .i64 k ∧ Ext wr w.heap.size 16 (exTop k) (decide (0 < k)) ∧
      Blk wr w1.heap.size 22 #[.int .u32 65534, .int .u32 65535, .int .u32 1, .int .u32 0, .int .u32 32769, .int .u32 32768] ∧
      Blk wr (w1.heap.size + 1) 27 #[.int .u64 131070, .int .u64 131071, .int .u64 131073, .int .u64 131072, .int .u64 98305, .int .u64 163840] ∧ Below w.heap.size w wr)
    (fun i _ => 6 - (intOf i).toNat)
  case atStart =>
    have hs := HS.out
    have hb := HB.out
    refine ⟨0, by omega, rfl, ?_, (Blk.new _ _ _).alloc _, ?_, ?_⟩
    · exact Ext.below HX.out (((Below.refl w1.heap.size w1).alloc (Nat.le_refl _) _).alloc (by simp) _) (by omega)
    · have h := Blk.new (w1.alloc (.cells #[.int .u32 65534, .int .u32 65535, .int .u32 1, .int .u32 0, .int .u32 32769, .int .u32 32768] 22)) 27 #[.int .u64 131070, .int .u64 131071, .int .u64 131073, .int .u64 131072, .int .u64 98305, .int .u64 163840]
      simpa using h
    · exact (hb.alloc (by omega) _).alloc (by simp; omega) _
  case round =>
    obtain ⟨k, hk, rfl, hx, hI, hO, hB⟩ := hrel
    have hs := HS.out
    have hz : w1.heap.size ≠ w.heap.size := by omega
    have hz' : w1.heap.size + 1 ≠ w.heap.size := by omega
    have HI := Lib.hid hI
    have HO := Lib.hid hO
    have HR := Lib.hid hB
    have HY := Lib.hid hx
    clear hI hO hB hx hs HX HB
    rcases (show k = 0 ∨ k = 1 ∨ k = 2 ∨ k = 3 ∨ k = 4 ∨ k = 5 ∨ k = 6 by omega) with rfl | rfl | rfl | rfl | rfl | rfl | rfl
    · have c := HI.out.cell 0
      simp at c
      go_wp2_with fail
      refine (next_lit0 _ _ HY.out).mono ?_
      rintro e w2 ⟨rfl, hx2, hg⟩
      have o := (HO.out.grown hg (by simpa using hz')).cell 0
      simp at o
      have HI2 := Lib.hid (HI.out.grown hg (by simpa using hz))
      have HO2 := Lib.hid (HO.out.grown hg (by simpa using hz'))
      have HR2 := Lib.hid (HR.out.grown hg HR.out.size (fun k e => by cases e; exact Nat.le_refl _))
      have HY2 := Lib.hid hx2
      clear hx2 hg
      go_wp2
      go_roundw
      case rel => exact ⟨1, by omega, rfl, HY2.out, HI2.out, HO2.out, HR2.out⟩
      case measure => simp [intOf]
    · have c := HI.out.cell 1
      simp at c
      go_wp2_with fail
      refine (next_lit1 _ _ HY.out).mono ?_
      rintro e w2 ⟨rfl, hx2, hg⟩
      have o := (HO.out.grown hg (by simpa using hz')).cell 1
      simp at o
      have HI2 := Lib.hid (HI.out.grown hg (by simpa using hz))
      have HO2 := Lib.hid (HO.out.grown hg (by simpa using hz'))
      have HR2 := Lib.hid (HR.out.grown hg HR.out.size (fun k e => by cases e; exact Nat.le_refl _))
      have HY2 := Lib.hid hx2
      clear hx2 hg
      go_wp2
      go_roundw
      case rel => exact ⟨2, by omega, rfl, HY2.out, HI2.out, HO2.out, HR2.out⟩
      case measure => simp [intOf]
    · have c := HI.out.cell 2
      simp at c
      go_wp2_with fail
      refine (next_lit2 _ _ HY.out).mono ?_
      rintro e w2 ⟨rfl, hx2, hg⟩
      have o := (HO.out.grown hg (by simpa using hz')).cell 2
      simp at o
      have HI2 := Lib.hid (HI.out.grown hg (by simpa using hz))
      have HO2 := Lib.hid (HO.out.grown hg (by simpa using hz'))
      have HR2 := Lib.hid (HR.out.grown hg HR.out.size (fun k e => by cases e; exact Nat.le_refl _))
      have HY2 := Lib.hid hx2
      clear hx2 hg
      go_wp2
      go_roundw
      case rel => exact ⟨3, by omega, rfl, HY2.out, HI2.out, HO2.out, HR2.out⟩
      case measure => simp [intOf]
    · have c := HI.out.cell 3
      simp at c
      go_wp2_with fail
      refine (next_lit3 _ _ HY.out).mono ?_
      rintro e w2 ⟨rfl, hx2, hg⟩
      have o := (HO.out.grown hg (by simpa using hz')).cell 3
      simp at o
      have HI2 := Lib.hid (HI.out.grown hg (by simpa using hz))
      have HO2 := Lib.hid (HO.out.grown hg (by simpa using hz'))
      have HR2 := Lib.hid (HR.out.grown hg HR.out.size (fun k e => by cases e; exact Nat.le_refl _))
      have HY2 := Lib.hid hx2
      clear hx2 hg
      go_wp2
      go_roundw
      case rel => exact ⟨4, by omega, rfl, HY2.out, HI2.out, HO2.out, HR2.out⟩
      case measure => simp [intOf]
    · have c := HI.out.cell 4
      simp at c
      go_wp2_with fail
      refine (next_lit4 _ _ HY.out).mono ?_
      rintro e w2 ⟨rfl, hx2, hg⟩
      have o := (HO.out.grown hg (by simpa using hz')).cell 4
      simp at o
      have HI2 := Lib.hid (HI.out.grown hg (by simpa using hz))
      have HO2 := Lib.hid (HO.out.grown hg (by simpa using hz'))
      have HR2 := Lib.hid (HR.out.grown hg HR.out.size (fun k e => by cases e; exact Nat.le_refl _))
      have HY2 := Lib.hid hx2
      clear hx2 hg
      go_wp2
      go_roundw
      case rel => exact ⟨5, by omega, rfl, HY2.out, HI2.out, HO2.out, HR2.out⟩
      case measure => simp [intOf]
    · have c := HI.out.cell 5
      simp at c
      go_wp2_with fail
      refine (next_lit5 _ _ HY.out).mono ?_
      rintro e w2 ⟨rfl, hx2, hg⟩
      have o := (HO.out.grown hg (by simpa using hz')).cell 5
      simp at o
      have HI2 := Lib.hid (HI.out.grown hg (by simpa using hz))
      have HO2 := Lib.hid (HO.out.grown hg (by simpa using hz'))
      have HR2 := Lib.hid (HR.out.grown hg HR.out.size (fun k e => by cases e; exact Nat.le_refl _))
      have HY2 := Lib.hid hx2
      clear hx2 hg
      go_wp2
      go_roundw
      case rel => exact ⟨6, by omega, rfl, HY2.out, HI2.out, HO2.out, HR2.out⟩
      case measure => simp [intOf]
    · go_wp2_with (first
        | (go_at_call 8; refine (ahead_lit _).mono ?_; rintro e w' ⟨rfl, rfl⟩)
        | (go_at_call 10; refine (between_lit _).mono ?_; rintro e w' ⟨rfl, rfl⟩))
      go_ret
      exact ⟨rfl, HR.out⟩
end Go.Proofs.Ytlaapogohgijjaa
