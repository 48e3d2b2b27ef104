/- Whatever comes, a window tells what the document says: the walk of the law WindowPlays. Conditions: none but that each argument is of its kind. -/
import Derived.Test.YtihedeijfofogaaKState
import Derived.Lib.QuietBelow
import Derived.Deep.RegionWith
import Derived.Deep.DeepCutAuto
namespace Go.Proofs.Ytihedeijfofogaa
open Go.RowKit Go.Shelf

set_option maxRecDepth 100000 in
theorem plays_long (sz n s : Int) (A : Option Addr) (len cap : Nat) (w : World) (hl : 60 < len) :
    Calls Try.prog 5 #[.int .i64 sz, .slice A len cap, .int .u64 n, .int .i64 s] w fun e w' => e = .returned (.bool true) ∧ Below w.heap.size w w' := by
  go_enter Try.func5, Try.ntmps5
  go_wp2_with (first
    | (go_at_call 7; refine (works_any _).mono ?_; rintro e w' ⟨rfl, hb⟩))
  go_ret
  exact ⟨rfl, hb⟩
set_option maxRecDepth 100000 in
theorem plays_no (sz n s : Int) (A : Option Addr) (len cap : Nat) (w : World) (hl : len ≤ 60) (h0 : sz < 1 ∨ 1024 < sz) :
    Calls Try.prog 5 #[.int .i64 sz, .slice A len cap, .int .u64 n, .int .i64 s] w fun e w' => e = .returned (.bool true) ∧ Below w.heap.size w w' := by
  by_cases h : sz < 1
  · go_enter Try.func5, Try.ntmps5
    go_wp2_with (first
      | (go_at_call 9; refine (of_bad _ _ h0).mono ?_; rintro e w' ⟨rfl, rfl⟩)
      | (go_at_call 7; refine (works_any _).mono ?_; rintro e w' ⟨rfl, hb⟩))
    go_ret
    exact ⟨rfl, hb⟩
  · have h1 : 1024 < sz := by omega
    go_enter Try.func5, Try.ntmps5
    go_wp2_with (first
      | (go_at_call 9; refine (of_bad _ _ h0).mono ?_; rintro e w' ⟨rfl, rfl⟩)
      | (go_at_call 7; refine (works_any _).mono ?_; rintro e w' ⟨rfl, hb⟩))
    go_ret
    exact ⟨rfl, hb⟩

set_option maxHeartbeats 4000000 in
set_option maxRecDepth 100000 in
theorem plays_main (sz n s : Int) (A : Option Addr) (cap : Nat) (zs : List Int) (w : World) (s0 : 1 ≤ sz) (s1 : sz ≤ 1024) (n0 : 0 ≤ n) (n1 : n ≤ 18446744073709551615) (hl : zs.length ≤ 60) (hN : Nums .u64 w w.heap.size A zs) :
    Calls Try.prog 5 #[.int .i64 sz, .slice A zs.length cap, .int .u64 n, .int .i64 s] w fun e w' => e = .returned (.bool true) ∧ Below w.heap.size w w' := by
  have HN := Lib.hid hN
  clear hN
  go_enter Try.func5, Try.ntmps5
  go_wp2_with fail
  refine (of_good sz w s0 s1).mono ?_
  rintro e w1 ⟨rfl, hw1⟩
  have hs1 : w1.heap.size = w.heap.size + 1 := by rw [hw1]; simp
  have hx1 : Win w1 w.heap.size sz [] 0 0 0 := by rw [hw1]; exact ⟨_, rel_nil, Blk.new w 53 _⟩
  have hb1 : Below w.heap.size w w1 := by rw [hw1]; exact (Below.refl _ w).alloc (Nat.le_refl _) _
  have hst : St w w1.heap.size ((w1.alloc (.cells #[.int .i64 sz, .slice none 0 0] 39)).alloc (.cells #[.int .u64 0, .int .u64 0, .int .u64 0] 23)) sz [] 0 0 0 [] none 0 0 0 0 := by
    have hbb : Below w1.heap.size w1 ((w1.alloc (.cells #[.int .i64 sz, .slice none 0 0] 39)).alloc (.cells #[.int .u64 0, .int .u64 0, .int .u64 0] 23)) := ((Below.refl _ w1).alloc (Nat.le_refl _) _).alloc (by simp) _
    refine ⟨hx1.below hbb (by omega), (Blk.new w1 39 _).alloc _, ?_, ⟨⟨by simp, by simp, fun h => absurd h (by simp)⟩, fun _ => ⟨rfl, rfl⟩, fun ad e => by cases e⟩, hb1.trans (hbb.mono (by omega)), by omega⟩
    have h := Blk.new (w1.alloc (.cells #[.int .i64 sz, .slice none 0 0] 39)) 23 #[.int .u64 0, .int .u64 0, .int .u64 0]
    rw [World.size_alloc] at h
    exact h
  have HS := Lib.hid hst
  clear hw1 hx1 hb1 hst hs1
  go_wp2_with fail
  go_loopw [13] (fun v wr => ∃ (k : Nat) (k0 k1 k2 : Int) (X : Option Addr) (xc : Nat), v = .int .i64 k ∧ k ≤ zs.length ∧ (0 ≤ k0 ∧ k0 ≤ k) ∧ (0 ≤ k1 ∧ k1 ≤ k) ∧ (0 ≤ k2 ∧ k2 ≤ k) ∧ St w w1.heap.size wr sz (hist sz (zs.take k)) k0 k1 k2 (hist sz (zs.take k)) X xc k0 k1 k2) (fun v _ => zs.length - (intOf v).toNat)
  case atStart => exact ⟨0, 0, 0, 0, none, 0, rfl, Nat.zero_le _, by omega, by omega, by omega, HS.out⟩
  case round =>
    obtain ⟨k, k0, k1, k2, X, xc, rfl, hk, a0, a1, a2, hst⟩ := hrel
    clear HS
    have HS := Lib.hid hst
    clear hst
    by_cases hlt : k < zs.length
    · obtain ⟨ad, u, hA, hab, hu, hw, hc⟩ := HN.out.at_ hlt
      subst hA
      have hkk : (k : Int) < zs.length := by omega
      have kk0 : (0 : Int) ≤ (k : Int) := by omega
      obtain ⟨u0, u1⟩ := u64_bd hw
      have hh := hist_more (sz := sz) hu
      have hhl : (hist sz (zs.take k)).length ≤ 60 := by have := hist_len sz (zs.take k); have := List.length_take_le k zs; omega
      obtain ⟨h, hhe⟩ : ∃ h, hist sz (zs.take k) = h := ⟨_, rfl⟩
      have hc1 : wr.cell? (ad.add k) = some (.int .u64 u) := (HS.out.b.cell (by rw [block_of_add]; exact hab)).trans hc
      rw [hhe] at hh hhl HS
      have HH := Lib.hid hh
      clear hh hc hu hw hhe
      go_wp2_with fail
      refine (look_win w.heap.size sz h k0 k1 k2 n wr s0 s1 n0 n1 HS.out.win).mono ?_
      rintro e w2 ⟨rfl, j, hj⟩
      have hst : St w w1.heap.size w2 sz h k0 k1 k2 h X xc k0 k1 k2 := by rw [hj]; exact HS.out.drewN j
      have hc2 : w2.cell? (ad.add k) = some (.int .u64 u) := by rw [hj]; exact hc1
      clear HS hc1 hj
      have x0 : w2.cell? ⟨w1.heap.size, 0, none⟩ = some (.int .i64 sz) := hst.x.cell 0
      have x1 : w2.cell? ⟨w1.heap.size, 1, none⟩ = some (.slice X h.length xc) := hst.x.cell 1
      have r1 : w1.heap.size < w2.heap.size := hst.x.lt
      have x0a : ∀ o, (w2.alloc o).cell? ⟨w1.heap.size, 0, none⟩ = some (.int .i64 sz) := fun o => Blk.cell (hst.x.alloc o) 0
      have x1a : ∀ o, (w2.alloc o).cell? ⟨w1.heap.size, 1, none⟩ = some (.slice X h.length xc) := fun o => Blk.cell (hst.x.alloc o) 1
      have hca : ∀ o, (w2.alloc o).cell? (ad.add k) = some (.int .u64 u) := fun o => (World.cell?_alloc_lt w2 o _ (block_lt_of_cell hc2)).trans hc2
      have hbw : w1.heap.size + 1 < w2.heap.size := hst.c.lt
      have HR := Lib.hid hst.rs
      have HRI := Lib.hid (fun W (hB : Below w2.heap.size w2 W) => refin_any sz X xc h u (w1.heap.size + 1) W s0 s1 u0 u1 (by omega) (Nat.lt_of_lt_of_le hbw hB.size) (hst.rs.below hB))
      have HS := Lib.hid hst
      clear hst
      go_upto_region 12 with fail
      go_cut [15, 16] (fun v15 v16 w' => ∃ (g : Nat) (X' : Option Addr) (xc' : Nat), v15 = .pointer (some ⟨g, 0, none⟩) ∧ v16 = .int .i64 (lookL sz h u) ∧ Nx w2 w' sz (w1.heap.size + 1) g X' xc' (inL sz h u))
      case first =>
        go_region_with (first
          | (go_at_call 15; refine (HRI.out _ (by first | exact (Below.refl _ w2).drew | exact ((Below.refl _ w2).alloc (Nat.le_refl _) _).drew)).mono ?_; rintro e w5 ⟨X', xc', rfl, hR5, hb5, hsep⟩; obtain ⟨hcc, hff⟩ := bcell hb5; have hz5 := hb5.size))
        all_goals (go_wp2_with fail; go_meet)
        all_goals (case rel => first | exact ⟨_, _, _, rfl, rfl, nextA HR.out hR5 hsep hb5⟩ | exact ⟨_, _, _, rfl, rfl, nextB hR5 hb5⟩)
      case rest =>
        obtain ⟨g, X', xc', rfl, rfl, hx3, hge, hR3, hb3⟩ := hcut
        have hst3 := HS.out.below hb3
        have hc3 : wc.cell? (ad.add k) = some (.int .u64 u) := (hb3.cell (by rw [block_of_add]; exact Nat.lt_of_lt_of_le hab HS.out.b.size)).trans hc2
        clear HS HR HRI x0 x1 x0a x1a hca hc2 hb3 hbw
        obtain ⟨st, hse, h3⟩ : ∃ st : Nat, lookL sz h u = st ∧ st < 3 := by
          rcases lookL_cases sz h u with e | e | e
          · exact ⟨0, e, by omega⟩
          · exact ⟨1, e, by omega⟩
          · exact ⟨2, e, by omega⟩
        rw [hse]
        have x0 : wc.cell? ⟨w1.heap.size, 0, none⟩ = some (.int .i64 sz) := hst3.x.cell 0
        have x1 : wc.cell? ⟨w1.heap.size, 1, none⟩ = some (.slice X h.length xc) := hst3.x.cell 1
        have HL := Lib.hid (reflook_any sz X xc h n wc.heap.size wc s0 s1 hst3.rs.1 (Nat.le_refl _))
        have HS := Lib.hid hst3
        have HR := Lib.hid hR3
        have HX := Lib.hid hx3
        clear hst3 hR3 hx3
        go_wp2_with fail
        refine HL.out.mono ?_
        rintro e w4 ⟨rfl, hb4⟩
        have hc4 : w4.cell? (ad.add k) = some (.int .u64 u) := (hb4.cell (block_lt_of_cell hc3)).trans hc3
        have HS4 := Lib.hid (HS.out.below hb4)
        have HR4 := Lib.hid (HR.out.below hb4)
        have HX4 := Lib.hid (HX.out.below hb4 HX.out.lt)
        have HI := Lib.hid (in_win w.heap.size sz h k0 k1 k2 u w4 s0 s1 u0 u1 (by omega) (by omega) (by omega) HS4.out.win)
        rw [hse] at HI
        clear HL hb4 hc3 HS HR HX x0 x1 hse
        go_wp2_with fail
        refine HI.out.mono ?_
        rintro e w5 ⟨rfl, hw5, hg5⟩
        have hgw : g ≠ w.heap.size := by have := HS4.out.lt; omega
        have hle : w.heap.size ≤ w1.heap.size + 1 := by have := HS4.out.lt; omega
        have hx5 := HX4.out.grown hg5 (by simpa using hgw)
        have HS5 := Lib.hid (HS4.out.came hw5 hg5)
        have HR5 := Lib.hid (HR4.out.only hg5 hle)
        have y0 : w5.cell? ⟨g, 0, none⟩ = some (.int .i64 sz) := hx5.cell 0
        have y1 : w5.cell? ⟨g, 1, none⟩ = some (.slice X' (inL sz h u).length xc') := hx5.cell 1
        have x0 : w5.cell? ⟨w1.heap.size, 0, none⟩ = some (.int .i64 sz) := HS5.out.x.cell 0
        have x1 : w5.cell? ⟨w1.heap.size, 1, none⟩ = some (.slice X h.length xc) := HS5.out.x.cell 1
        have fx0 := HS5.out.x.frozen 0
        have fx1 := HS5.out.x.frozen 1
        clear HI hw5 hg5 hx5 HS4 HR4 HX4 hc4
        go_upto_region 16 with fail
        obtain ⟨w6, hw6⟩ : ∃ w6, (w5.setCell ⟨w1.heap.size, 0, none⟩ (.int .i64 sz)).setCell ⟨w1.heap.size, 1, none⟩ (.slice X' (inL sz h u).length xc') = w6 := ⟨_, rfl⟩
        rw [hw6]
        have hst6 := HS5.out.putx HR5.out hw6
        clear HS5 HR5 hw6 y0 y1 x0 x1 fx0 fx1
        have hct : w6.cell? ⟨w1.heap.size + 1, st, none⟩ = some (.int .u64 (cnt k0 k1 k2 st)) := hst6.cell h3
        have hcf : w6.frozen? ⟨w1.heap.size + 1, st, none⟩ = false := hst6.c.frozen st
        have hcb : 0 ≤ cnt k0 k1 k2 st ∧ cnt k0 k1 k2 st ≤ 60 := by unfold cnt; split <;> (try split) <;> (try split) <;> omega
        have hpc := fun w' he => hst6.putc (w' := w') h3 he
        obtain ⟨cc, hcc⟩ : ∃ cc, cnt k0 k1 k2 st = cc := ⟨_, rfl⟩
        rw [hcc] at hct hcb hpc
        have st3 : (st : Int) < 3 := by omega
        have st0 : (0 : Int) ≤ (st : Int) := by omega
        have HPC := Lib.hid hpc
        clear hcc hpc hst6
        go_upto_region 17 with fail
        obtain ⟨w7, hw7⟩ : ∃ w7, w6.setCell ⟨w1.heap.size + 1, st, none⟩ (.int .u64 (cc + 1)) = w7 := ⟨_, rfl⟩
        rw [hw7]
        have hst7 := HPC.out w7 hw7
        clear HPC hw7 hct hcf hcb st3 st0
        have b0 : 0 ≤ cu st 0 k0 ∧ cu st 0 k0 ≤ (k : Int) + 1 := cu_bd a0
        have b1 : 0 ≤ cu st 1 k1 ∧ cu st 1 k1 ≤ (k : Int) + 1 := cu_bd a1
        have b2 : 0 ≤ cu st 2 k2 ∧ cu st 2 k2 ≤ (k : Int) + 1 := cu_bd a2
        clear h3 a0 a1 a2
        generalize cu st 0 k0 = q0 at hst7 b0
        generalize cu st 1 k1 = q1 at hst7 b1
        generalize cu st 2 k2 = q2 at hst7 b2
        generalize inL sz h u = h' at hst7 HH
        have HT := Lib.hid (top_win w.heap.size sz h' q0 q1 q2 w7 hst7.win)
        have HS := Lib.hid hst7
        clear hst7
        go_wp2_with fail
        refine HT.out.mono ?_
        rintro e w8 ⟨rfl, j', hj'⟩
        have hst8 : St w w1.heap.size w8 sz h' q0 q1 q2 h' X' xc' q0 q1 q2 := by rw [hj']; exact HS.out.drewN j'
        have x0 : w8.cell? ⟨w1.heap.size, 0, none⟩ = some (.int .i64 sz) := hst8.x.cell 0
        have x1 : w8.cell? ⟨w1.heap.size, 1, none⟩ = some (.slice X' h'.length xc') := hst8.x.cell 1
        have HT2 := Lib.hid (reftop_any sz X' xc' h' w8.heap.size w8 hst8.rs.1 (Nat.le_refl _))
        have HS8 := Lib.hid hst8
        clear HT HS hj' hst8
        go_wp2_with fail
        refine HT2.out.mono ?_
        rintro e w9 ⟨rfl, hb9⟩
        have HS9 := Lib.hid (HS8.out.below hb9)
        clear HT2 HS8 hb9 x0 x1
        go_wp2_with fail
        go_loopw [21] (fun v wq => ∃ t : Nat, v = .int .i64 t ∧ t ≤ 2 ∧ St w w1.heap.size wq sz h' q0 q1 q2 h' X' xc' q0 q1 q2) (fun v _ => 2 - (intOf v).toNat)
        case atStart => exact ⟨0, rfl, by omega, HS9.out⟩
        case round =>
          obtain ⟨t, rfl, ht, hst⟩ := hrel
          have HS := Lib.hid hst
          clear hst HS9
          by_cases ht2 : t < 2
          · have ht2' : (t : Int) < 2 := by omega
            have t0 : (0 : Int) ≤ (t : Int) := by omega
            have HM := Lib.hid (missing_pl w.heap.size sz h' q0 q1 q2 _ s0 s1 HS.out.win)
            go_wp2_with fail
            refine HM.out.mono ?_
            rintro e w10 ⟨Am, capm, rfl, hNm, hMm, hb10⟩
            have hst10 := HS.out.below hb10
            have hw0 : w.heap.size ≤ wr.heap.size := HS.out.b.size
            have x0 : w10.cell? ⟨w1.heap.size, 0, none⟩ = some (.int .i64 sz) := hst10.x.cell 0
            have x1 : w10.cell? ⟨w1.heap.size, 1, none⟩ = some (.slice X' h'.length xc') := hst10.x.cell 1
            have HM2 := Lib.hid (refmissing_pl sz X' xc' h' _ w10 s0 s1 hst10.rs)
            have HB10 := Lib.hid hb10
            have HNm := Lib.hid hNm
            have HMm := Lib.hid hMm
            clear HM hst10 hb10 hNm hMm
            go_wp2_with fail
            refine HM2.out.mono ?_
            rintro e w11 ⟨Ar, capr, rfl, hNr, hb11⟩
            have hNm11 := nums_up HNm.out hb11 (Nat.le_refl _)
            have HB11 := Lib.hid (HB10.out.trans (hb11.mono HB10.out.size))
            have hMm11 : Mine w11 wr.heap.size Am (missL sz h').length := fun h0 => by
              obtain ⟨g', cur, e, hg, hbk, hn⟩ := HMm.out h0
              exact ⟨g', cur, e, hg, hbk.below hb11 hbk.lt, hn⟩
            have HMm2 := Lib.hid hMm11
            have HSm := Lib.hid (same_any Am Ar capm capr _ _ _ _ w11 hNm11 hNr)
            clear HM2 hNr hb11 hNm11 hMm11 HB10 HNm HMm x0 x1
            rw [show decide (missL sz h' = missL sz h') = true from decide_eq_true rfl] at HSm
            have hml : (missL sz h').length ≤ 1024 := missL_len sz h' s1 (fun x hx => (HS.out.win.nums x hx).1)
            generalize missL sz h' = ms at HMm2 HSm hml ⊢
            go_wp2_with fail
            refine HSm.out.mono ?_
            rintro e w12 ⟨rfl, j2, hj2⟩
            have HB12 := Lib.hid (show Below wr.heap.size wr w12 by rw [hj2]; exact below_drewN HB11.out j2)
            have HMm3 := Lib.hid (show Mine w12 wr.heap.size Am ms.length by rw [hj2]; exact HMm2.out)
            clear hj2 HSm HB11 HMm2
            go_wp2_with fail
            go_loopw [23] (fun v wq => ∃ q : Nat, v = .int .i64 q ∧ q ≤ ms.length ∧ Below wr.heap.size wr wq ∧ Mine wq wr.heap.size Am ms.length) (fun v _ => ms.length - (intOf v).toNat)
            case atStart => exact ⟨0, rfl, by omega, HB12.out, HMm3.out⟩
            case round =>
              obtain ⟨q, rfl, hq, hbq, hmq⟩ := hrel
              clear HB12 HMm3
              by_cases hql : q < ms.length
              · obtain ⟨g', cur, rfl, hg', hbk, hn⟩ := hmq (by omega)
                have hq' : (q : Int) < ms.length := by omega
                have q0 : (0 : Int) ≤ (q : Int) := by omega
                have cq' : ∃ v, (wr.cell? ⟨g', q, none⟩) = some v := ⟨cur[q], by rw [hbk.cell]; exact Array.getElem?_eq_getElem (by omega)⟩
                obtain ⟨v, cq⟩ := cq'
                have fq := hbk.frozen q
                have HBQ := Lib.hid (hbq.setCell (p := ⟨g', q, none⟩) hg' (.int .u64 7))
                have HMQ := Lib.hid (show Mine (wr.setCell ⟨g', q, none⟩ (.int .u64 7)) _ (some ⟨g', 0, none⟩) ms.length from fun _ => ⟨g', _, rfl, hg', hbk.set_ q (.int .u64 7), by simpa using hn⟩)
                clear hbq hmq hbk
                go_wp2_with fail
                go_roundw
                case rel => first | exact ⟨q + 1, by simp, by omega, HBQ.out, HMQ.out⟩ | ((repeat apply Exists.intro); exact ⟨⟨q + 1, by simp, by omega, HBQ.out, HMQ.out⟩, rfl⟩)
                case measure => simp [intOf]; omega
              · obtain rfl : q = ms.length := by omega
                have HSS := Lib.hid (HS.out.below hbq)
                clear hbq hmq HS
                go_wp2_with fail
                go_roundw
                case rel => first | exact ⟨t + 1, by simp, by omega, HSS.out⟩ | ((repeat apply Exists.intro); exact ⟨⟨t + 1, by simp, by omega, HSS.out⟩, rfl⟩)
                case measure => simp [intOf]; omega
          · obtain rfl : t = 2 := by omega
            go_wp2_with fail
            go_roundw
            case rel => first | exact ⟨k + 1, q0, q1, q2, X', xc', by simp, by omega, by omega, by omega, by omega, by rw [HH.out]; exact HS.out⟩ | ((repeat apply Exists.intro); exact ⟨⟨k + 1, q0, q1, q2, X', xc', by simp, by omega, by omega, by omega, by omega, by rw [HH.out]; exact HS.out⟩, rfl⟩)
            case measure => simp [intOf]; omega
    · obtain rfl : k = zs.length := by omega
      rw [List.take_length] at HS
      have a0' : 0 ≤ k0 ∧ k0 ≤ 60 := by omega
      have a1' : 0 ≤ k1 ∧ k1 ≤ 60 := by omega
      have a2' : 0 ≤ k2 ∧ k2 ≤ 60 := by omega
      clear a0 a1 a2
      generalize hist sz zs = h at HS
      go_wp2_with fail
      go_loopw [24] (fun v wq => ∃ q : Nat, v = .int .i64 q ∧ q ≤ 3 ∧ St w w1.heap.size wq sz h k0 k1 k2 h X xc k0 k1 k2) (fun v _ => 3 - (intOf v).toNat)
      case atStart => exact ⟨0, rfl, by omega, HS.out⟩
      case round =>
        obtain ⟨q, rfl, hq, hst⟩ := hrel
        have HSq := Lib.hid hst
        clear hst HS
        by_cases hq3 : q < 3
        · have hcell := HSq.out.cell hq3
          have HC := Lib.hid (fun m => count_win w.heap.size sz h k0 k1 k2 q (wr.drewN m) (HSq.out.win.drewN m))
          have q0 : (0 : Int) ≤ (q : Int) := by omega
          have q3 : (q : Int) < 3 := by omega
          generalize cnt k0 k1 k2 q = cv at hcell HC
          go_wp2_with fail
          go_quiet ((first | (go_at_call 14; exact quiet_left (HC.out _))))
          go_wp2_with fail
          go_roundw
          case rel => first | exact ⟨q + 1, by simp, by omega, HSq.out.drewN _⟩ | ((repeat apply Exists.intro); exact ⟨⟨q + 1, by simp, by omega, HSq.out.drewN _⟩, rfl⟩)
          case measure => simp [intOf]; omega
        · obtain rfl : q = 3 := by omega
          have HC := Lib.hid (count_win w.heap.size sz h k0 k1 k2 s wr HSq.out.win)
          have HB := Lib.hid HSq.out.b
          have HW1 := fun W => word_any s W
          have HW2 := fun W => refword_any s W
          have hcn : s < 0 ∨ 3 ≤ s → cnt k0 k1 k2 s = 0 := fun h => by unfold cnt; rw [if_neg (by omega), if_neg (by omega), if_neg (by omega)]
          generalize word s = ws at HW1 HW2
          clear HSq
          by_cases hs3 : s < 0 ∨ 3 ≤ s
          · rw [hcn hs3] at HC
            clear hcn
            by_cases hs4 : s < 0
            · clear hs3
              go_wp2_with (first
                | (go_at_call 20; refine (HW1 _).mono ?_; rintro e w' ⟨rfl, rfl⟩)
                | (go_at_call 21; refine (HW2 _).mono ?_; rintro e w' ⟨rfl, rfl⟩)
                | (go_at_call 14; refine HC.out.mono ?_; rintro e w' ⟨rfl, rfl⟩)
                | (go_at_call 7; refine (works_any _).mono ?_; rintro e w2 ⟨rfl, hb2⟩; have HB' := Lib.hid (HB.out.trans (hb2.mono HB.out.size)); clear hb2))
              go_ret
              exact ⟨rfl, HB'.out⟩
            · have hs5 : 3 ≤ s := by omega
              have hs6 : 0 ≤ s := by omega
              clear hs3
              go_wp2_with (first
                | (go_at_call 20; refine (HW1 _).mono ?_; rintro e w' ⟨rfl, rfl⟩)
                | (go_at_call 21; refine (HW2 _).mono ?_; rintro e w' ⟨rfl, rfl⟩)
                | (go_at_call 14; refine HC.out.mono ?_; rintro e w' ⟨rfl, rfl⟩)
                | (go_at_call 7; refine (works_any _).mono ?_; rintro e w2 ⟨rfl, hb2⟩; have HB' := Lib.hid (HB.out.trans (hb2.mono HB.out.size)); clear hb2))
              go_ret
              exact ⟨rfl, HB'.out⟩
          · have hs5 : s < 3 := by omega
            have hs6 : 0 ≤ s := by omega
            clear hs3 hcn HC
            go_wp2_with (first
              | (go_at_call 20; refine (HW1 _).mono ?_; rintro e w' ⟨rfl, rfl⟩)
              | (go_at_call 21; refine (HW2 _).mono ?_; rintro e w' ⟨rfl, rfl⟩)
              | (go_at_call 7; refine (works_any _).mono ?_; rintro e w2 ⟨rfl, hb2⟩; have HB' := Lib.hid (HB.out.trans (hb2.mono HB.out.size)); clear hb2))
            go_ret
            exact ⟨rfl, HB'.out⟩

theorem plays_any (sz : Int) (A : Option Addr) (len cap : Nat) (zs : List Int) (n s : Int) (w : World) (w1 : IsRow .u64 w A len cap zs) (w2 : (Lit.int .u64 n).wf = true) :
    Calls Try.prog 5 #[.int .i64 sz, .slice A len cap, .int .u64 n, .int .i64 s] w fun e w' => e = .returned (.bool true) ∧ Below w.heap.size w w' := by
  obtain ⟨n0, n1⟩ := u64_bd w2
  obtain ⟨xs, rfl, -, hN⟩ := nums_of_row w1
  by_cases hl : 60 < xs.length
  · exact plays_long sz n s A _ cap w hl
  by_cases h : sz < 1 ∨ 1024 < sz
  · exact plays_no sz n s A _ cap w (by omega) h
  · exact plays_main sz n s A cap xs w (by omega) (by omega) n0 n1 (by omega) hN
theorem plays_law (sz : Int) (A : Option Addr) (len cap : Nat) (zs : List Int) (n s : Int) (w : World) (_w0 : (Lit.int .i64 sz).wf = true) (w1 : IsRow .u64 w A len cap zs) (w2 : (Lit.int .u64 n).wf = true) (_w3 : (Lit.int .i64 s).wf = true) :
    Calls Try.prog 5 #[.int .i64 sz, .slice A len cap, .int .u64 n, .int .i64 s] w fun e w' => e = .returned (.bool true) ∧ Below w.heap.size w w' := plays_any sz A len cap zs n s w w1 w2
end Go.Proofs.Ytihedeijfofogaa
