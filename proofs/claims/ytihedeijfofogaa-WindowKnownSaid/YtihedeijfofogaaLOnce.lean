/- No number is told New twice: the walk of the law WindowOnce. Conditions: none but that each argument is of its kind. -/
import Derived.Test.YtihedeijfofogaaMLaw
import Derived.Lib.QuietBelow
import Derived.Deep.RegionWith
import Derived.Deep.DeepCutAuto
namespace Go.Proofs.Ytihedeijfofogaa
open Go.RowKit Go.Shelf

/-- A number brought to 0 to n - 1. -/
def pick (a n : Int) : Int := (wrap64 (a.tmod n + n)).tmod n
theorem pick_bd (a n : Int) (n0 : 1 ≤ n) (n1 : n ≤ 4294967296) : 0 ≤ pick a n ∧ pick a n < n := by
  have h1 := Int.tmod_lt_of_pos a (show 0 < n by omega)
  have h2 : -n < a.tmod n := by
    have := Int.tmod_lt_of_pos (-a) (show 0 < n by omega)
    rw [Int.neg_tmod] at this
    omega
  have e : wrap64 (a.tmod n + n) = a.tmod n + n := by unfold wrap64; omega
  unfold pick
  rw [e]
  exact ⟨Int.tmod_nonneg _ (by omega), Int.tmod_lt_of_pos _ (by omega)⟩
theorem pick_lit {a n p : Int} (hv : pick a n = p) (w : World) (n0 : 1 ≤ n) : Calls Try.prog 8 #[.int .i64 a, .int .i64 n] w fun e w' => e = .returned (.int .i64 p) ∧ w = w' := by
  subst hv
  go_enter Try.func8, Try.ntmps8
  go_wp2
  go_ret
  exact ⟨rfl, rfl⟩

/-- The two windows of a round. -/
structure Tw (w0 : World) (e : Nat) (wr : World) (sz : Int) (h : List Int) (k0 k1 k2 : Int) (hv : List Int) (m0 m1 m2 : Int) : Prop where
  win : Win wr w0.heap.size sz h k0 k1 k2
  vin : Win wr e sz hv m0 m1 m2
  b : Below w0.heap.size w0 wr
  lt : w0.heap.size < e
section
variable {w0 wr w' : World} {e : Nat} {sz : Int} {h : List Int} {k0 k1 k2 : Int} {hv : List Int} {m0 m1 m2 : Int}
theorem Tw.below (s : Tw w0 e wr sz h k0 k1 k2 hv m0 m1 m2) (hb : Below wr.heap.size wr w') : Tw w0 e w' sz h k0 k1 k2 hv m0 m1 m2 :=
  ⟨s.win.below hb s.win.lt, s.vin.below hb s.vin.lt, s.b.trans (hb.mono s.b.size), s.lt⟩
theorem Tw.drewN (s : Tw w0 e wr sz h k0 k1 k2 hv m0 m1 m2) (n : Nat) : Tw w0 e (wr.drewN n) sz h k0 k1 k2 hv m0 m1 m2 := s.below (below_drewN (Below.refl _ _) n)
theorem Tw.came (s : Tw w0 e wr sz h k0 k1 k2 hv m0 m1 m2) {h' : List Int} {k0' k1' k2' : Int} (hw : Win w' w0.heap.size sz h' k0' k1' k2') (hg : wr.grownBy w' (some w0.heap.size)) : Tw w0 e w' sz h' k0' k1' k2' hv m0 m1 m2 := by
  have hlt := s.lt
  exact ⟨hw, s.vin.grown hg (by simp; omega), below_only (Nat.le_refl _) s.b hg, hlt⟩
theorem Tw.vcame (s : Tw w0 e wr sz h k0 k1 k2 hv m0 m1 m2) {h' : List Int} {k0' k1' k2' : Int} (hw : Win w' e sz h' k0' k1' k2') (hg : wr.grownBy w' (some e)) : Tw w0 e w' sz h k0 k1 k2 h' k0' k1' k2' := by
  have hlt := s.lt
  exact ⟨s.win.grown hg (by simp; omega), hw, s.b.grown hg s.b.size fun j he => by cases he; omega, hlt⟩
end

set_option maxRecDepth 100000 in
theorem once_long (sz base : Int) (A : Option Addr) (len cap : Nat) (w : World) (hl : 60 < len) :
    Calls Try.prog 3 #[.int .i64 sz, .slice A len cap, .int .u64 base] w fun e w' => e = .returned (.bool true) ∧ Below w.heap.size w w' := by
  go_enter Try.func3, Try.ntmps3
  go_wp2_with (first
    | (go_at_call 7; refine (works_any _).mono ?_; rintro e w' ⟨rfl, hb⟩))
  go_ret
  exact ⟨rfl, hb⟩

set_option maxHeartbeats 4000000 in
set_option maxRecDepth 100000 in
theorem once_main (sz0 sz p base B : Int) (A : Option Addr) (cap : Nat) (zs : List Int) (w : World) (hp : pick sz0 1024 = p) (p0 : 0 ≤ p) (p1 : p < 1024) (hsz : sz = 1 + p) (n0 : 0 ≤ base) (n1 : base ≤ 18446744073709551615) (hB : B = min base (18446744073709551615 - sz)) (hl : zs.length ≤ 60) (hN : Nums .u64 w w.heap.size A zs) :
    Calls Try.prog 3 #[.int .i64 sz0, .slice A zs.length cap, .int .u64 base] w fun e w' => e = .returned (.bool true) ∧ Below w.heap.size w w' := by
  have HN := Lib.hid hN
  have HP := Lib.hid hp
  have s0 : 1 ≤ sz := by omega
  have s1 : sz ≤ 1024 := by omega
  have hBB : base ≤ 18446744073709551615 - sz ∧ B = base ∨ 18446744073709551615 - sz < base ∧ B = 18446744073709551615 - sz := by omega
  have B0 : 0 ≤ B := by omega
  have B1 : B + sz ≤ 18446744073709551615 := by omega
  have HBB := Lib.hid hBB
  clear hN hp hB hBB
  go_enter Try.func3, Try.ntmps3
  go_wp2_with fail
  refine (pick_lit HP.out _ (by omega)).mono ?_
  rintro e w' ⟨rfl, rfl⟩
  go_wp2_with fail
  rw [← hsz]
  clear hsz p0 p1 HP
  refine (of_good sz w s0 s1).mono ?_
  rintro e w1 ⟨rfl, hw1⟩
  have hs1 : w1.heap.size = w.heap.size + 1 := by rw [hw1]; simp
  have hx1 : Win w1 w.heap.size sz [] 0 0 0 := by rw [hw1]; exact ⟨_, rel_nil, Blk.new w 53 _⟩
  have hb1 : Below w.heap.size w w1 := by rw [hw1]; exact (Below.refl _ w).alloc (Nat.le_refl _) _
  have HX := Lib.hid hx1
  have HB := Lib.hid hb1
  have HS1 := Lib.hid hs1
  clear hw1 hx1 hb1 hs1
  go_wp2_with fail
  refine (of_win sz w1 s0 s1).mono ?_
  rintro e w2 ⟨rfl, hv2, hb2⟩
  have hT : Tw w w1.heap.size w2 sz [] 0 0 0 [] 0 0 0 := ⟨HX.out.below hb2 HX.out.lt, hv2, HB.out.trans (hb2.mono HB.out.size), by have := HS1.out; omega⟩
  have HT := Lib.hid hT
  clear HX HB HS1 hv2 hb2 hT
  go_upto_region 8 with fail
  go_cut [2] (fun v2 w' => v2 = .int .u64 B ∧ w2 = w')
  case first =>
    rcases HBB.out with ⟨h1, h2⟩ | ⟨h1, h2⟩
    · go_wp2_with fail
      go_meet
      case rel => exact ⟨by rw [h2], rfl⟩
    · go_wp2_with fail
      go_meet
      case rel => exact ⟨by rw [h2], rfl⟩
  case rest =>
    obtain ⟨rfl, rfl⟩ := hcut
    clear HBB
    go_wp2_with fail
    go_loopw [11] (fun v wr => ∃ (k : Nat) (k0 k1 k2 m0 m1 m2 : Int), v = .int .i64 k ∧ k ≤ zs.length ∧ (0 ≤ k0 ∧ 0 ≤ k1 ∧ 0 ≤ k2 ∧ k0 + k1 + k2 = k) ∧ (0 ≤ m0 ∧ m0 ≤ k) ∧ (0 ≤ m1 ∧ m1 ≤ k) ∧ (0 ≤ m2 ∧ m2 ≤ k) ∧ Tw w w1.heap.size wr sz (hist sz (zs.take k)) k0 k1 k2 (hist sz (nears B sz (zs.take k))) m0 m1 m2) (fun v _ => zs.length - (intOf v).toNat)
    case atStart => exact ⟨0, 0, 0, 0, 0, 0, 0, rfl, Nat.zero_le _, by omega, by omega, by omega, by omega, HT.out⟩
    case round =>
      obtain ⟨k, k0, k1, k2, m0, m1, m2, rfl, hk, ⟨a0, a1, a2, asum⟩, b0, b1, b2, hT⟩ := hrel
      clear HT
      have HT := Lib.hid hT
      clear hT
      by_cases hlt : k < zs.length
      · obtain ⟨ad, u, hA, hab, hu, hw, hc⟩ := HN.out.at_ hlt
        subst hA
        have hkk : (k : Int) < zs.length := by omega
        have kk0 : (0 : Int) ≤ (k : Int) := by omega
        obtain ⟨u0, u1⟩ := u64_bd hw
        have HU := Lib.hid hu
        have HNall := Lib.hid (fun (wr : World) (hb : Below w.heap.size w wr) => HN.out.below hb)
        have hc1 : wr.cell? (ad.add k) = some (.int .u64 u) := (HT.out.b.cell (by rw [block_of_add]; exact hab)).trans hc
        have HAB := Lib.hid hab
        clear hu hw hc hab
        have HI := Lib.hid (in_win w.heap.size sz (hist sz (zs.take k)) k0 k1 k2 u wr s0 s1 u0 u1 (by omega) (by omega) (by omega) HT.out.win)
        go_wp2_with fail
        refine HI.out.mono ?_
        rintro e w3 ⟨rfl, hw3, hg3⟩
        have HT3 := Lib.hid (HT.out.came hw3 hg3)
        have hc3 : w3.cell? (ad.add k) = some (.int .u64 u) := (HNall.out w3 HT3.out.b |>.at_ hlt).elim fun ad' h => by
          obtain ⟨u', e1, -, e2, -, e3⟩ := h
          cases e1
          rw [HU.out] at e2; cases e2
          exact e3
        clear HI hw3 hg3 HT hc1
        have hmod0 : 0 ≤ u % sz := Int.emod_nonneg u (by omega)
        have hmod1 : u % sz < sz := Int.emod_lt_of_pos u (by omega)
        go_upto_region 14 with fail
        obtain ⟨nv, hnv⟩ : ∃ nv, B + u % sz = nv := ⟨_, rfl⟩
        have hl0 := look_fst s0 B0 zs u k
        rw [hnv] at hl0
        have hnv0 : 0 ≤ nv := by omega
        have hnv1 : nv ≤ 18446744073709551615 := by omega
        have HI := in_win w1.heap.size sz (hist sz (nears B sz (zs.take k))) m0 m1 m2 nv w3 s0 s1 hnv0 hnv1 (by omega) (by omega) (by omega) HT3.out.vin
        have hvm := hist_near_more (B := B) (sz := sz) HU.out
        rw [show nr B sz u = nv from hnv] at hvm
        rw [← hvm] at HI
        have HVL := Lib.hid hl0
        have HI := Lib.hid HI
        rw [hnv]
        clear hmod0 hmod1 hvm hl0
        go_wp2_with fail
        refine HI.out.mono ?_
        rintro e w4 ⟨rfl, hw4, hg4⟩
        have HT4 := Lib.hid (HT3.out.vcame hw4 hg4)
        have hhm := hist_more (sz := sz) HU.out
        rw [← hhm] at HT4
        have HSN := Lib.hid (fun (q : Nat) (hq : q < k) (h : zs[q]? = some u) => seen_at s0 hq h)
        have hsum := cu_sum (k0 := k0) (k1 := k1) (k2 := k2) (show lookL sz (hist sz (zs.take k)) u = 0 ∨ lookL sz (hist sz (zs.take k)) u = 1 ∨ lookL sz (hist sz (zs.take k)) u = 2 from lookL_cases _ _ _)
        have d0 := cu_bd (s := lookL sz (hist sz (zs.take k)) u) (i := 0) (show 0 ≤ k0 ∧ k0 ≤ (k : Int) by omega)
        have d1 := cu_bd (s := lookL sz (hist sz (zs.take k)) u) (i := 1) (show 0 ≤ k1 ∧ k1 ≤ (k : Int) by omega)
        have d2 := cu_bd (s := lookL sz (hist sz (zs.take k)) u) (i := 2) (show 0 ≤ k2 ∧ k2 ≤ (k : Int) by omega)
        have f0 := cu_bd (s := lookL sz (hist sz (nears B sz (zs.take k))) nv) (i := 0) b0
        have f1 := cu_bd (s := lookL sz (hist sz (nears B sz (zs.take k))) nv) (i := 1) b1
        have f2 := cu_bd (s := lookL sz (hist sz (nears B sz (zs.take k))) nv) (i := 2) b2
        clear HI hw4 hg4 HT3 hhm b0 b1 b2
        generalize cu _ 0 k0 = c0 at HT4 hsum d0
        generalize cu _ 1 k1 = c1 at HT4 hsum d1
        generalize cu _ 2 k2 = c2 at HT4 hsum d2
        generalize cu _ 0 m0 = e0 at HT4 f0
        generalize cu _ 1 m1 = e1 at HT4 f1
        generalize cu _ 2 m2 = e2 at HT4 f2
        obtain ⟨tv, htv, htv'⟩ : ∃ tv : Int, lookL sz (hist sz (nears B sz (zs.take k))) nv = tv ∧ (fst B sz u zs k = true ∧ tv = 0 ∨ fst B sz u zs k = false ∧ tv = 1) := by
          refine ⟨_, rfl, ?_⟩
          rw [HVL.out]
          cases fst B sz u zs k <;> simp
        rw [htv]
        have HTV := Lib.hid htv'
        generalize lookL sz (hist sz (zs.take k)) u = sv at HSN ⊢
        clear HVL htv htv'
        have hc4 : w4.cell? (ad.add k) = some (.int .u64 u) := (HNall.out w4 HT4.out.b |>.at_ hlt).elim fun ad' h => by
          obtain ⟨u', e1, -, e2, -, e3⟩ := h
          cases e1
          rw [HU.out] at e2; cases e2
          exact e3
        go_wp2_with fail
        go_loopw [15, 16] (fun f v wr => ∃ q j : Nat, v = .int .i64 q ∧ q ≤ k ∧ f = .bool (fst B sz u zs q) ∧ w4.drewN j = wr) (fun _ v _ => k - (intOf v).toNat)
        case atStart => exact ⟨0, 0, rfl, Nat.zero_le _, by rw [fst_zero], rfl⟩
        case round =>
          obtain ⟨q, j, rfl, hq, rfl, rfl⟩ := hrel
          by_cases hqk : q < k
          · obtain ⟨ad', x, e1, -, hx, hxw, hxc⟩ := (HNall.out w4 HT4.out.b).at_ (j := q) (by omega)
            cases e1
            obtain ⟨x0, x1⟩ := u64_bd hxw
            have hfm := fst_more (B := B) (sz := sz) (u := u) hx
            rw [hnv] at hfm
            have hqq : (q : Int) < zs.length := by omega
            have hqk' : (q : Int) < (k : Int) := by omega
            have q0 : (0 : Int) ≤ (q : Int) := by omega
            have hsx : x = u → sv ≠ 0 := fun e => HSN.out q hqk (by rw [← e]; exact hx)
            have y0 : 0 ≤ x % sz := Int.emod_nonneg x (by omega)
            have y1 : x % sz < sz := Int.emod_lt_of_pos x (by omega)
            have hzx : B + x % sz ≤ 18446744073709551615 := by omega
            have hzx0 : 0 ≤ B + x % sz := by omega
            clear hx hxw d0 d1 d2 f0 f1 f2 hsum asum a0 a1 a2
            generalize fst B sz u zs q = fb at hfm ⊢
            by_cases hxu : x = u
            · have hsv := hsx hxu
              subst hxu
              clear hsx
              cases fb
              · go_wp2
                go_quiet (fail)
                go_wp2
                refine ⟨⟨q + 1, j + nq, by simp, by omega, by rw [hfm]; simp, rfl⟩, by simp [intOf]; omega⟩
              · rw [hnv] at hfm hzx hzx0
                go_wp2
                go_quiet (fail)
                go_wp2
                refine ⟨⟨q + 1, j + nq, by simp, by omega, by rw [hfm]; simp, rfl⟩, by simp [intOf]; omega⟩
            · clear hsx
              cases fb
              · go_wp2
                go_quiet (fail)
                go_wp2
                refine ⟨⟨q + 1, j + nq, by simp, by omega, by rw [hfm]; simp, rfl⟩, by simp [intOf]; omega⟩
              · by_cases hxn : B + x % sz = nv
                · go_wp2
                  go_quiet (fail)
                  go_wp2
                  refine ⟨⟨q + 1, j + nq, by simp, by omega, by rw [hfm]; simp [hxn], rfl⟩, by simp [intOf]; omega⟩
                · go_wp2
                  go_quiet (fail)
                  go_wp2
                  refine ⟨⟨q + 1, j + nq, by simp, by omega, by rw [hfm]; simp [hxn], rfl⟩, by simp [intOf]; omega⟩
          · obtain rfl : q = k := by omega
            have HT5 := Lib.hid (HT4.out.drewN j)
            have hc5 : (w4.drewN j).cell? (ad.add q) = some (.int .u64 u) := hc4
            obtain ⟨w5, hw5⟩ : ∃ w5, w4.drewN j = w5 := ⟨_, rfl⟩
            rw [hw5] at HT5 hc5 ⊢
            have HN5 := Lib.hid (HNall.out w5 HT5.out.b)
            clear HT4 hc4 hw5 HSN hc3
            generalize fst B sz u zs q = fb at HTV ⊢
            obtain ⟨h', hh'⟩ : ∃ h', hist sz (zs.take (q + 1)) = h' := ⟨_, rfl⟩
            have HNA := Lib.hid (fun (r : Nat) (x : Int) (hr : r < q + 1) (h : zs[r]? = some x) (x0 : 0 ≤ x) => near_at s0 hr h x0)
            rw [hh'] at HNA HT5
            have HH := Lib.hid hh'
            have HTop := Lib.hid (top_win w.heap.size sz h' c0 c1 c2 w5 HT5.out.win)
            clear hh'
            go_upto_region 22 with fail
            go_cut [14, 15, 117] (fun a b v w' => a = .int .i64 tv ∧ b = .bool fb ∧ v = .bool false ∧ w5 = w')
            case first =>
              rcases HTV.out with ⟨h1, h2⟩ | ⟨h1, h2⟩
              · rw [h1, h2]
                go_wp2_with fail
                go_meet
                case rel => exact ⟨by rw [h2], by rw [h1], rfl, rfl⟩
              · rw [h1, h2]
                go_wp2_with fail
                go_meet
                case rel => exact ⟨by rw [h2], by rw [h1], rfl, rfl⟩
            case rest =>
              obtain ⟨rfl, rfl, rfl, rfl⟩ := hcut
              clear HTV
              go_wp2_with fail
              refine HTop.out.mono ?_
              rintro e w6 ⟨rfl, j', hj'⟩
              have HT6 := Lib.hid (show Tw w w1.heap.size w6 sz h' c0 c1 c2 _ e0 e1 e2 by rw [hj']; exact HT5.out.drewN j')
              have HN6 := Lib.hid (HNall.out w6 HT6.out.b)
              clear HTop HT5 HN5 hc5 hj'
              obtain ⟨top, htop⟩ : ∃ top, topL h' = top := ⟨_, rfl⟩
              have htb : top ≤ 18446744073709551615 := by rw [← htop]; exact topL_le (by omega) fun x hx => (HT6.out.win.nums x hx).2
              rw [htop] at HNA ⊢
              go_wp2_with fail
              go_loopw [19] (fun v wr => ∃ r j : Nat, v = .int .i64 r ∧ r ≤ q + 1 ∧ w6.drewN j = wr) (fun v _ => q + 1 - (intOf v).toNat)
              case atStart => exact ⟨0, 0, rfl, Nat.zero_le _, rfl⟩
              case round =>
                obtain ⟨r, j, rfl, hr, rfl⟩ := hrel
                by_cases hrq : r < q + 1
                · obtain ⟨ad', x, ea, -, hx, hxw, hxc⟩ := HN6.out.at_ (j := r) (by omega)
                  cases ea
                  obtain ⟨x0, x1⟩ := u64_bd hxw
                  obtain ⟨xt, xl⟩ := HNA.out r x hrq hx x0
                  have hrr : (r : Int) < zs.length := by omega
                  have hrq' : (r : Int) ≤ (q : Int) := by omega
                  have r0 : (0 : Int) ≤ (r : Int) := by omega
                  have hxs0 : 0 ≤ top - x := by omega
                  have hxs1 : top - x ≤ 18446744073709551615 := by omega
                  have HLk := Lib.hid (fun W (hW : Win W w.heap.size sz h' c0 c1 c2) => look_win w.heap.size sz h' c0 c1 c2 x W s0 s1 x0 x1 hW)
                  have HLx := Lib.hid xl
                  have hxc' : ∀ j, (w6.drewN j).cell? (ad.add r) = some (.int .u64 x) := fun j => hxc
                  clear hx hxw xl d0 d1 d2 f0 f1 f2 hsum asum a0 a1 a2
                  by_cases hd : top - x < sz
                  · have hl1 := HLx.out hd
                    rw [hl1] at HLk
                    go_wp2_with (go_at_call 12; refine (HLk.out _ (HT6.out.win.drewN _)).mono ?_; rintro e w' ⟨rfl, j2, rfl⟩)
                    refine ⟨⟨r + 1, j + j2, by simp, by omega, rfl⟩, by simp [intOf]; omega⟩
                  · go_wp2_with fail
                    refine ⟨⟨r + 1, j, by simp, by omega, rfl⟩, by simp [intOf]; omega⟩
                · obtain rfl : r = q + 1 := by omega
                  have HT7 := Lib.hid (HT6.out.drewN j)
                  obtain ⟨w7, hw7⟩ : ∃ w7, w6.drewN j = w7 := ⟨_, rfl⟩
                  rw [hw7] at HT7 ⊢
                  have HM := Lib.hid (missing_pl w.heap.size sz h' c0 c1 c2 w7 s0 s1 HT7.out.win)
                  clear HT6 HN6 hw7 HNA
                  go_wp2_with fail
                  refine HM.out.mono ?_
                  rintro e w8 ⟨Am, capm, rfl, hNm, -, hb8⟩
                  have HT8 := Lib.hid (HT7.out.below hb8)
                  have HNm := Lib.hid hNm
                  clear HM hNm hb8 HT7
                  have hpw := missL_pairwise sz h'
                  have hml : ∀ x ∈ missL sz h', lookL sz h' x = 0 ∧ x < top := fun x hx => by rw [← htop]; exact missL_look hx
                  have hmn := missL_len sz h' s1 (fun x hx => (HT8.out.win.nums x hx).1)
                  clear htop
                  obtain ⟨ms, hms⟩ : ∃ ms, missL sz h' = ms := ⟨_, rfl⟩
                  rw [hms] at HNm hpw hml hmn ⊢
                  have HPW := Lib.hid hpw
                  have HML := Lib.hid hml
                  clear hms hpw hml
                  go_wp2_with fail
                  go_loopw [21] (fun v wr => ∃ r j : Nat, v = .int .i64 r ∧ r ≤ ms.length ∧ w8.drewN j = wr) (fun v _ => ms.length - (intOf v).toNat)
                  case atStart => exact ⟨0, 0, rfl, Nat.zero_le _, rfl⟩
                  case round =>
                    obtain ⟨r, j, rfl, hr, rfl⟩ := hrel
                    by_cases hrm : r < ms.length
                    · obtain ⟨adm, x, rfl, -, hx, hxw, hxc⟩ := HNm.out.at_ hrm
                      obtain ⟨x0, x1⟩ := u64_bd hxw
                      obtain ⟨hx0, hxt⟩ := HML.out x (List.mem_of_getElem? hx)
                      have hxt' : ¬ top ≤ x := by omega
                      have hxt2 : decide (top ≤ x) = false := decide_eq_false hxt'
                      have HLk : Hid (∀ m, Calls Try.prog 12 #[.pointer (some ⟨w.heap.size, 0, none⟩), .int .u64 x] (w8.drewN (j + m)) fun e w'' => e = .returned (.int .i64 0) ∧ ∃ n, w'' = w8.drewN (j + n)) := Lib.hid (fun m => by
                        have h := look_win w.heap.size sz h' c0 c1 c2 x (w8.drewN (j + m)) s0 s1 x0 x1 (HT8.out.drewN (j + m)).win
                        rw [hx0] at h
                        exact quiet_add h)
                      have hrr : (r : Int) < ms.length := by omega
                      have r0 : (0 : Int) ≤ (r : Int) := by omega
                      by_cases hr0 : r = 0
                      · subst hr0
                        have hxc0 : w8.cell? adm = some (.int .u64 x) := by
                          have e : adm.add 0 = adm := by obtain ⟨b, o, s⟩ := adm; cases s <;> rfl
                          rw [e] at hxc
                          exact hxc
                        go_wp2
                        go_big_quiet ((go_at_call 12; exact HLk.out _))
                        go_wp2
                        refine ⟨⟨1, _, by simp, by omega, rfl⟩, by simp [intOf]; omega⟩
                      · obtain ⟨r', rfl⟩ : ∃ r', r = r' + 1 := ⟨r - 1, by omega⟩
                        obtain ⟨adm', y, em, -, hy, hyw, hyc⟩ := HNm.out.at_ (j := r') (by omega)
                        cases em
                        have hlt2 : y < x := by
                          obtain ⟨i1, hi1⟩ := List.getElem?_eq_some_iff.1 hy
                          obtain ⟨i2, hi2⟩ := List.getElem?_eq_some_iff.1 hx
                          rw [← hi1, ← hi2]
                          exact List.pairwise_iff_getElem.1 HPW.out r' (r' + 1) i1 i2 (by omega)
                        have hyx : ¬ x ≤ y := by omega
                        have hyx2 : decide (x ≤ y) = false := decide_eq_false hyx
                        obtain ⟨y0, y1⟩ := u64_bd hyw
                        have hrr' : (r' : Int) < ms.length := by omega
                        have r0' : (0 : Int) ≤ (r' : Int) := by omega
                        have hxc0 : w8.cell? ⟨adm.block, adm.off + (r' + 1), none⟩ = some (.int .u64 x) := hxc
                        have hrr2 : (r' : Int) + 1 < ms.length := by omega
                        have r02 : (0 : Int) ≤ (r' : Int) + 1 := by omega
                        have r03 : (0 : Int) < (r' : Int) + 1 := by omega
                        clear hx hxw hy hyw hr0
                        go_wp2
                        go_big_quiet ((go_at_call 12; exact HLk.out _))
                        go_wp2
                        refine ⟨⟨r' + 2, _, by simp; omega, by omega, rfl⟩, by simp [intOf]; omega⟩
                    · obtain rfl : r = ms.length := by omega
                      have HT9 := Lib.hid (HT8.out.drewN j)
                      clear HT8 HNm HPW HML
                      go_wp2
                      refine ⟨⟨q + 1, c0, c1, c2, e0, e1, e2, by simp, by omega, ⟨by omega, by omega, by omega, by simp; omega⟩, by simpa using f0, by simpa using f1, by simpa using f2, by rw [HH.out]; exact HT9.out⟩, by simp [intOf]; omega⟩
      · obtain rfl : k = zs.length := by omega
        have HC := fun s => Lib.hid (count_win w.heap.size sz _ k0 k1 k2 s wr HT.out.win)
        have HC0 := HC 0
        have HC1 := HC 1
        have HC2 := HC 2
        have HB := Lib.hid HT.out.b
        rw [show cnt k0 k1 k2 0 = k0 from rfl] at HC0
        rw [show cnt k0 k1 k2 1 = k1 from rfl] at HC1
        rw [show cnt k0 k1 k2 2 = k2 from rfl] at HC2
        clear HC HT b0 b1 b2
        have g0 : k0 ≤ 60 := by omega
        have g1 : k1 ≤ 60 := by omega
        have g2 : k2 ≤ 60 := by omega
        have g01 : k0 + k1 ≤ 60 := by omega
        go_wp2_with fail
        refine HC0.out.mono ?_
        rintro e w' ⟨rfl, rfl⟩
        go_wp2_with fail
        refine HC1.out.mono ?_
        rintro e w' ⟨rfl, rfl⟩
        go_wp2_with fail
        refine HC2.out.mono ?_
        rintro e w' ⟨rfl, rfl⟩
        clear HC0 HC1 HC2
        rw [← asum]
        go_wp2_with (go_at_call 7; refine (works_any _).mono ?_; rintro e w2 ⟨rfl, hb2⟩; have HB' := Lib.hid (HB.out.trans (hb2.mono HB.out.size)); clear hb2)
        go_ret
        exact ⟨rfl, HB'.out⟩
theorem once_law (sz base : Int) (A : Option Addr) (len cap : Nat) (zs : List Int) (w : World) (_w0 : (Lit.int .i64 sz).wf = true) (w1 : IsRow .u64 w A len cap zs) (w2 : (Lit.int .u64 base).wf = true) :
    Calls Try.prog 3 #[.int .i64 sz, .slice A len cap, .int .u64 base] w fun e w' => e = .returned (.bool true) ∧ Below w.heap.size w w' := by
  obtain ⟨n0, n1⟩ := u64_bd w2
  obtain ⟨xs, rfl, -, hN⟩ := nums_of_row w1
  by_cases hl : 60 < xs.length
  · exact once_long sz base A _ cap w hl
  · have hp := pick_bd sz 1024 (by omega) (by omega)
    exact once_main sz _ _ base _ A cap xs w rfl hp.1 hp.2 rfl n0 n1 rfl (by omega) hN
end Go.Proofs.Ytihedeijfofogaa
