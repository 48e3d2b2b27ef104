/- Whatever numbers come, they are made wide, and the top is, as the document says: the walk of the law WideNexts. Conditions: none but that each argument is of its kind. -/
import Derived.Test.YtlaapogohgijjaaDWorks
import Derived.Lib.QuietBelow
import Derived.Deep.RegionWith
import Derived.Deep.DeepCutAuto
namespace Go.Proofs.Ytlaapogohgijjaa
open Go.RowKit

theorem nexts_long (d : Int) (A : Option Addr) (len cap : Nat) (look cut : Int) (w : World) (hl : 100 < len) :
    Calls Try.prog 4 #[.int .i64 d, .slice A len cap, .int .u32 look, .int .u64 cut] w fun e w' => e = .returned (.bool true) ∧ Below w.heap.size w w' := by
  go_enter Try.func4, Try.ntmps4
  go_wp2_with (first
    | (go_at_call 12; refine (works_any _).mono ?_; rintro e w' ⟨rfl, hb⟩))
  go_ret
  exact ⟨rfl, hb⟩
theorem nexts_no (d : Int) (A : Option Addr) (len cap : Nat) (look cut : Int) (w : World) (hl : len ≤ 100) (h0 : d < 1 ∨ 32 < d) :
    Calls Try.prog 4 #[.int .i64 d, .slice A len cap, .int .u32 look, .int .u64 cut] w fun e w' => e = .returned (.bool true) ∧ Below w.heap.size w w' := by
  rcases h0 with h0 | h0
  · go_enter Try.func4, Try.ntmps4
    go_wp2_with (first
      | (go_at_call 13; refine (new_no _ _ (by omega)).mono ?_; rintro e w' ⟨rfl, rfl⟩)
      | (go_at_call 12; refine (works_any _).mono ?_; rintro e w' ⟨rfl, hb⟩))
    go_ret
    exact ⟨rfl, hb⟩
  · have h2 : ¬ d < 1 := by omega
    go_enter Try.func4, Try.ntmps4
    go_wp2_with (first
      | (go_at_call 13; refine (new_no _ _ (by omega)).mono ?_; rintro e w' ⟨rfl, rfl⟩)
      | (go_at_call 12; refine (works_any _).mono ?_; rintro e w' ⟨rfl, hb⟩))
    go_ret
    exact ⟨rfl, hb⟩
theorem nt_bd (d t : Int) (g : Bool) (n : Int) (h1 : d ≤ 32) (t0 : 0 ≤ t) (t1 : t ≤ 18446744073709551615) : 0 ≤ nt d t g n ∧ nt d t g n ≤ 18446744073709551615 := by
  have h := pk_bd d t g n h1
  unfold nt
  split
  · split <;> omega
  · omega
theorem below_drew_of {w w' : World} (h : ∃ k, w' = w.drewN k) : Below w.heap.size w w' := by
  obtain ⟨k, rfl⟩ := h; exact below_drewN (Below.refl _ _) _
theorem below_made {w w' : World} {o : Obj} (h : ∃ k, w' = (w.alloc o).drewN k) : Below w.heap.size w w' := by
  obtain ⟨k, rfl⟩ := h; exact below_drewN ((Below.refl _ _).alloc (Nat.le_refl _) _) _
theorem bcell {W w1 : World} (hb : Below W.heap.size W w1) : (∀ b o, b < W.heap.size → w1.cell? ⟨b, o, none⟩ = W.cell? ⟨b, o, none⟩) ∧ (∀ b o, b < W.heap.size → w1.frozen? ⟨b, o, none⟩ = W.frozen? ⟨b, o, none⟩) :=
  ⟨fun b o h => hb.cell (p := ⟨b, o, none⟩) h, fun b o h => hb.frozen (p := ⟨b, o, none⟩) h⟩
theorem blk_put3 {w : World} {g : Nat} {T : TypeId} {x y z : Value} (h : Blk w g T #[x, y, z]) (a b c : Value) :
    Blk (((w.setCell ⟨g, 0, none⟩ a).setCell ⟨g, 1, none⟩ b).setCell ⟨g, 2, none⟩ c) g T #[a, b, c] := ((h.set_ 0 a).set_ 1 b).set_ 2 c
theorem ext_put3 {w : World} {q : Nat} {d t : Int} {s : Bool} (h : Ext w q d t s) {g : Nat} (hne : g ≠ q) (a b c : Value) :
    Ext (((w.setCell ⟨g, 0, none⟩ a).setCell ⟨g, 1, none⟩ b).setCell ⟨g, 2, none⟩ c) q d t s := by
  have h1 : Blk w q 55 #[.int .i64 d, .int .u64 t, .bool s] := h
  exact ((h1.far (p := ⟨g, 0, none⟩) (Ne.symm hne) a).far (p := ⟨g, 1, none⟩) (Ne.symm hne) b).far (p := ⟨g, 2, none⟩) (Ne.symm hne) c
theorem below_put3 {B : Nat} {a w : World} (h : Below B a w) {g : Nat} (hg : B ≤ g) (x y z : Value) :
    Below B a (((w.setCell ⟨g, 0, none⟩ x).setCell ⟨g, 1, none⟩ y).setCell ⟨g, 2, none⟩ z) := by
  refine Below.setCell (p := ⟨g, 2, none⟩) ?_ hg _
  refine Below.setCell (p := ⟨g, 1, none⟩) ?_ hg _
  exact Below.setCell (p := ⟨g, 0, none⟩) h hg _
def Made (w w' : World) (g : Nat) (cs : Array Value) : Prop := Blk w' g 33 cs ∧ Below w.heap.size w w'
theorem madeA {w w1 : World} {x y z : Value} (hb : Below ((w.alloc (.cells #[x, y, z] 33)).drew).heap.size (w.alloc (.cells #[x, y, z] 33)).drew w1) (a b c : Value) :
    Made w (((w1.setCell ⟨w.heap.size, 0, none⟩ a).setCell ⟨w.heap.size, 1, none⟩ b).setCell ⟨w.heap.size, 2, none⟩ c) w.heap.size #[a, b, c] := by
  have k : Blk w1 w.heap.size 33 #[x, y, z] := ((Blk.new w 33 #[x, y, z]).drew).below hb (by simp)
  have h : Below w.heap.size w w1 := ((Below.refl _ _).alloc (Nat.le_refl _) _).drew.trans (hb.mono (by simp))
  refine ⟨((k.set_ 0 a).set_ 1 b).set_ 2 c, ?_⟩
  refine Below.setCell (p := ⟨w.heap.size, 2, none⟩) ?_ (Nat.le_refl _) _
  refine Below.setCell (p := ⟨w.heap.size, 1, none⟩) ?_ (Nat.le_refl _) _
  exact Below.setCell (p := ⟨w.heap.size, 0, none⟩) h (Nat.le_refl _) _
theorem madeB {w w1 : World} (hb : Below (w.drew).heap.size w.drew w1) (cs : Array Value) : Made w (w1.alloc (.cells cs 33)) w1.heap.size cs :=
  ⟨Blk.new w1 33 cs, ((Below.refl _ w).drew.trans hb).alloc hb.size _⟩
set_option maxHeartbeats 4000000 in
set_option maxRecDepth 100000 in
theorem nexts_main (d : Int) (A : Option Addr) (cap : Nat) (xs : List Int) (look cut : Int) (w : World) (hl : xs.length ≤ 100) (h0 : 1 ≤ d) (h1 : d ≤ 32) (hN : Nums .u32 w w.heap.size A xs)
    (l0 : 0 ≤ look) (l1 : look ≤ 4294967295) (c0 : 0 ≤ cut) (c1 : cut ≤ 18446744073709551615) :
    Calls Try.prog 4 #[.int .i64 d, .slice A xs.length cap, .int .u32 look, .int .u64 cut] w fun e w' => e = .returned (.bool true) ∧ Below w.heap.size w w' := by
  have HN := Lib.hid hN
  clear hN
  have hd1 : ¬ d < 1 := by omega
  have hd2 : ¬ 32 < d := by omega
  go_enter Try.func4, Try.ntmps4
  go_wp2_with fail
  refine (new_yes d _ h0 h1).mono ?_
  rintro e w1 ⟨rfl, hw1⟩
  have hx0 : Ext w1 w.heap.size d 0 false := by rw [hw1]; exact heap_alloc_new w _
  have hb0 : Below w.heap.size w w1 := by rw [hw1]; exact (Below.refl _ _).alloc (Nat.le_refl _) _
  have hs : w1.heap.size = w.heap.size + 1 := by rw [hw1]; simp
  clear hw1
  have HX := Lib.hid hx0
  have HB := Lib.hid hb0
  have HS := Lib.hid hs
  clear hx0 hb0 hs
  go_wp2_with fail
  go_loopw [12] (fun i wr => ∃ (k : Nat) (t : Int) (g : Bool), k ≤ xs.length ∧ i = .int .i64 k ∧ 0 ≤ t ∧ t ≤ 18446744073709551615 ∧ Ext wr w.heap.size d t g ∧
      Blk wr w1.heap.size 33 #[.int .i64 d, .int .u64 t, .bool g] ∧ Below w.heap.size w wr)
    (fun i _ => xs.length + 1 - (intOf i).toNat)
  case atStart =>
    have hs := HS.out
    have hb := HB.out
    exact ⟨0, 0, false, by omega, rfl, by omega, by omega, Ext.below HX.out ((Below.refl w1.heap.size w1).alloc (Nat.le_refl _) _) (by omega), Blk.new _ _ _, hb.alloc (by omega) _⟩
  case round =>
    obtain ⟨k, t, g, hk, rfl, t0, t1, hx, hR, hB⟩ := hrel
    have hz : w1.heap.size ≠ w.heap.size := by have := HS.out; omega
    clear HX HB
    go_wp2_with fail
    refine (top_any _ _ _ _ _ hx).mono ?_
    rintro e w2 ⟨rfl, kq, hw2⟩
    have hx2 : Ext w2 w.heap.size d t g := by rw [hw2]; exact hx
    have hR2 : Blk w2 w1.heap.size 33 #[.int .i64 d, .int .u64 t, .bool g] := by rw [hw2]; exact hR
    have hB2 : Below w.heap.size w w2 := by rw [hw2]; exact below_drewN hB _
    clear hw2 hx hR hB
    have q0 := cell_regrown (w := w2) (show w2.cell? ⟨w1.heap.size, 0, none⟩ = some (.int .i64 d) from hR2.cell 0)
    have q1 := cell_regrown (w := w2) (show w2.cell? ⟨w1.heap.size, 1, none⟩ = some (.int .u64 t) from hR2.cell 1)
    have q2 := cell_regrown (w := w2) (show w2.cell? ⟨w1.heap.size, 2, none⟩ = some (.bool g) from hR2.cell 2)
    have HX := Lib.hid hx2
    have HR := Lib.hid hR2
    have HB := Lib.hid hB2
    clear hx2 hR2 hB2
    go_wp2_with fail
    refine wp_region_quiet_below (by kernel_rfl) (by kernel_rfl) ?_
    repeat (go_big_quiet_step (first
      | (go_at_call 15; exact Calls.regrown_of ((peek_any _ _ _ _ _ _ h0 h1 t0 t1 l0 l1 (HX.out.below (below_regrown _ _ _) HX.out.lt)).mono fun _ _ h => ⟨h.1, below_drew_of h.2⟩))
      | (go_at_call 16; exact Calls.regrown_of ((rpeek_any _ _ _ _ _ h0 h1 t0 t1 l0 l1).mono fun _ _ h => ⟨h.1, below_made h.2⟩))
      | (go_at_call 17; exact Calls.regrown_of ((cut_any _ _ _ _ _ _ h0 h1 c0 c1 (HX.out.below (below_regrown _ _ _) HX.out.lt)).mono fun _ _ h => ⟨h.1, below_drew_of h.2⟩))
      | (go_at_call 18; exact Calls.regrown_of ((rcut_any _ _ _ _ _ h0 h1 c0 c1).mono fun _ _ h => ⟨h.1, below_made ⟨0, h.2⟩⟩))))
    refine wpQuiet_nil ?_
    intro _ hw'
    obtain ⟨p, hw''⟩ := hw'
    subst hw''
    have bg := below_regrown w2 p.d p.os
    generalize Sort.grow (redrawn w2 p.d) p.os = w3 at bg ⊢
    have hx3 := HX.out.below bg HX.out.lt
    have hR3 := HR.out.below bg HR.out.lt
    have hB3 : Below w.heap.size w w3 := HB.out.trans (bg.mono HB.out.size)
    clear bg q0 q1 q2 HX HR HB
    have HX := Lib.hid hx3
    have HR := Lib.hid hR3
    have HB := Lib.hid hB3
    clear hx3 hR3 hB3
    by_cases hlt : k < xs.length
    · obtain ⟨ad, u, rfl, hab, hu, hwf, hc⟩ := HN.out.at_ hlt
      obtain ⟨u0, u1⟩ := u32_bd hwf
      have hc3 : w3.cell? (ad.add k) = some (.int .u32 u) := (HB.out.cell (by rw [block_of_add]; exact hab)).trans hc
      clear hu hwf
      go_wp2_with fail
      refine (next_any _ _ _ _ _ _ h0 h1 t0 t1 u0 u1 HX.out).mono ?_
      rintro e w4 ⟨rfl, hx4, hg⟩
      have hR4 := HR.out.grown hg (by simpa using hz)
      have hB4 : Below w.heap.size w w4 := HB.out.grown hg HB.out.size (fun k e => by cases e; exact Nat.le_refl _)
      have hc4 : w4.cell? (ad.add k) = some (.int .u32 u) := (hB4.cell (by rw [block_of_add]; exact hab)).trans hc
      clear hc3 HX HR HB hg
      have r0 : w4.cell? ⟨w1.heap.size, 0, none⟩ = some (.int .i64 d) := hR4.cell 0
      have r1 : w4.cell? ⟨w1.heap.size, 1, none⟩ = some (.int .u64 t) := hR4.cell 1
      have r2 : w4.cell? ⟨w1.heap.size, 2, none⟩ = some (.bool g) := hR4.cell 2
      have HX := Lib.hid hx4
      have HR := Lib.hid hR4
      have HB := Lib.hid hB4
      have hr4 := hR4.lt
      have ha4 : ∀ o, (w4.alloc o).cell? (ad.add k) = some (.int .u32 u) := fun o => (World.cell?_alloc_lt w4 o _ (block_lt_of_cell hc4)).trans hc4
      clear hx4 hR4 hB4 hc
      go_upto_region 17 with fail
      go_cut [17, 18, 19] (fun v17 v18 v19 w' => ∃ g5 : Nat, v17 = .pointer (some ⟨g5, 0, none⟩) ∧ v18 = .int .u64 (pk d t g u) ∧ v19 = .bool (!g) ∧ Made w4 w' g5 #[.int .i64 d, .int .u64 (nt d t g u), .bool true])
      case first =>
        go_region_with (first
          | (go_at_call 20; refine (rnext_any _ _ _ _ _ h0 h1 t0 t1 u0 u1).mono ?_; rintro e w5 ⟨rfl, hb5⟩; obtain ⟨hcc, hff⟩ := bcell hb5; have hz5 := hb5.size))
        all_goals (go_wp2_with fail; go_meet)
        all_goals (case rel => first | exact ⟨_, rfl, rfl, rfl, madeA hb5 _ _ _⟩ | exact ⟨_, rfl, rfl, rfl, madeB hb5 _⟩)
      case rest =>
        obtain ⟨g5, rfl, rfl, rfl, hM, hBB⟩ := hcut
        have m0 : wc.cell? ⟨g5, 0, none⟩ = some (.int .i64 d) := hM.cell 0
        have m1 : wc.cell? ⟨g5, 1, none⟩ = some (.int .u64 (nt d t g u)) := hM.cell 1
        have m2 : wc.cell? ⟨g5, 2, none⟩ = some (.bool true) := hM.cell 2
        have hx5 := HX.out.below hBB HX.out.lt
        have hR5 := HR.out.below hBB HR.out.lt
        have hB5 : Below w.heap.size w wc := HB.out.trans (hBB.mono HB.out.size)
        clear hM hBB r0 r1 r2 ha4 hc4
        have r0 : wc.cell? ⟨w1.heap.size, 0, none⟩ = some (.int .i64 d) := hR5.cell 0
        have r1 : wc.cell? ⟨w1.heap.size, 1, none⟩ = some (.int .u64 t) := hR5.cell 1
        have r2 : wc.cell? ⟨w1.heap.size, 2, none⟩ = some (.bool g) := hR5.cell 2
        have s0 := hR5.frozen 0
        have s1 := hR5.frozen 1
        have s2 := hR5.frozen 2
        obtain ⟨n0, n1⟩ := nt_bd d t g u h1 t0 t1
        clear HX HR HB
        have HX := Lib.hid hx5
        have HR := Lib.hid hR5
        have HB := Lib.hid hB5
        clear hx5 hR5 hB5
        go_wp2
        go_roundw
        case rel => exact ⟨k + 1, nt d t g u, true, by omega, by go_num, n0, n1, ext_put3 HX.out hz _ _ _, blk_put3 HR.out _ _ _, below_put3 HB.out (by have := HS.out; omega) _ _ _⟩
        case measure => simp [intOf]; omega
    · have e : k = xs.length := by omega
      subst e
      go_wp2_with (first
        | (go_at_call 12; refine (works_any _).mono ?_; rintro e w' ⟨rfl, hb⟩))
      go_ret
      exact ⟨rfl, HB.out.trans (hb.mono HB.out.size)⟩
theorem nexts_any (d : Int) (A : Option Addr) (len cap : Nat) (zs : List Int) (look cut : Int) (w : World) (_w0 : (Lit.int .i64 d).wf = true) (w1 : IsRow .u32 w A len cap zs)
    (w2 : (Lit.int .u32 look).wf = true) (w3 : (Lit.int .u64 cut).wf = true) :
    Calls Try.prog 4 #[.int .i64 d, .slice A len cap, .int .u32 look, .int .u64 cut] w fun e w' => e = .returned (.bool true) ∧ Below w.heap.size w w' := by
  obtain ⟨l0, l1⟩ := u32_bd w2
  obtain ⟨c0, c1⟩ := u64_bd w3
  obtain ⟨xs, rfl, _, hN⟩ := nums_of_row w1
  by_cases hl : 100 < xs.length
  · exact nexts_long d A _ cap look cut w hl
  · by_cases h : d < 1 ∨ 32 < d
    · exact nexts_no d A _ cap look cut w (by omega) h
    · exact nexts_main d A cap xs look cut w (by omega) (by omega) (by omega) hN l0 l1 c0 c1
end Go.Proofs.Ytlaapogohgijjaa
