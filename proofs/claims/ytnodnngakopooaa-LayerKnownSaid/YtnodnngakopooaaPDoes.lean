/- What comes, of the filter and of the reference, where it is a frame: they stay alike. Conditions: numbers of their kinds. -/
import Derived.Test.YtnodnngakopooaaODoes
namespace Go.Proofs.Ytnodnngakopooaa
open Go.RowKit

theorem dk_alloc {w0 w : World} {b : Nat} {f r : Fl} {a : Ac} (h : Dk w0 w b f r a) (o : Obj) : Dk w0 (w.alloc o) b f r a := dk_below h ((Below.refl _ w).alloc (Nat.le_refl _) o)
/-- A block of zeros. -/
def Zb (w : World) (g : Nat) : Prop := Blk w g 46 #[.int .i64 0, .int .i64 0, .bool false, .bool false, .int .u8 0, .bool false, .bool false, .bool false]
theorem zb_new (w : World) : Zb (w.alloc (.cells #[.int .i64 0, .int .i64 0, .bool false, .bool false, .int .u8 0, .bool false, .bool false, .bool false] 46)) w.heap.size := Blk.new w 46 _
theorem zb_below {w w' : World} {g : Nat} (h : Zb w g) (hb : Below w.heap.size w w') : Zb w' g := Blk.below h hb (Blk.lt h)
theorem zb_cells {w : World} {g : Nat} (h : Zb w g) :
    (w.cell? ⟨g, 0, none⟩ = some (.int .i64 0) ∧ w.cell? ⟨g, 1, none⟩ = some (.int .i64 0) ∧ w.cell? ⟨g, 2, none⟩ = some (.bool false) ∧ w.cell? ⟨g, 3, none⟩ = some (.bool false) ∧ w.cell? ⟨g, 4, none⟩ = some (.int .u8 0) ∧ w.cell? ⟨g, 5, none⟩ = some (.bool false) ∧ w.cell? ⟨g, 6, none⟩ = some (.bool false) ∧ w.cell? ⟨g, 7, none⟩ = some (.bool false)) ∧
    w.frozen? ⟨g, 0, none⟩ = false ∧ w.frozen? ⟨g, 1, none⟩ = false ∧ w.frozen? ⟨g, 2, none⟩ = false ∧ w.frozen? ⟨g, 3, none⟩ = false ∧ w.frozen? ⟨g, 4, none⟩ = false ∧ w.frozen? ⟨g, 5, none⟩ = false ∧ w.frozen? ⟨g, 6, none⟩ = false ∧ w.frozen? ⟨g, 7, none⟩ = false := by
  unfold Zb at h
  exact ⟨⟨h.cell 0, h.cell 1, h.cell 2, h.cell 3, h.cell 4, h.cell 5, h.cell 6, h.cell 7⟩, h.frozen 0, h.frozen 1, h.frozen 2, h.frozen 3, h.frozen 4, h.frozen 5, h.frozen 6, h.frozen 7⟩
theorem dn_put {w0 w : World} {b g : Nat} {f r n : Fl} {a : Ac} (h : Dk w0 w b f r a) (hz : Zb w g) (hb0 : b < w0.heap.size) (hg : w0.heap.size + 2 < g) :
    Dn w0 ((((((((w.setCell ⟨g, 0, none⟩ (.int .i64 n.asked)).setCell ⟨g, 1, none⟩ (.int .i64 n.now)).setCell ⟨g, 2, none⟩ (.bool n.stopped)).setCell ⟨g, 3, none⟩ (.bool n.told)).setCell ⟨g, 4, none⟩ (.int .u8 n.num)).setCell ⟨g, 5, none⟩ (.bool n.m1)).setCell ⟨g, 6, none⟩ (.bool n.m2)).setCell ⟨g, 7, none⟩ (.bool n.m3)) b f r a g n := by
  obtain ⟨h1, h2, h3, h4, h5, h6⟩ := h
  exact ⟨⟨far8 h1 (by omega) (.int .i64 n.asked) (.int .i64 n.now) (.bool n.stopped) (.bool n.told) (.int .u8 n.num) (.bool n.m1) (.bool n.m2) (.bool n.m3), far8 h2 (by omega) (.int .i64 n.asked) (.int .i64 n.now) (.bool n.stopped) (.bool n.told) (.int .u8 n.num) (.bool n.m1) (.bool n.m2) (.bool n.m3), far8 h3 (by omega) (.int .i64 n.asked) (.int .i64 n.now) (.bool n.stopped) (.bool n.told) (.int .u8 n.num) (.bool n.m1) (.bool n.m2) (.bool n.m3), far8 h4 (by omega) (.int .i64 n.asked) (.int .i64 n.now) (.bool n.stopped) (.bool n.told) (.int .u8 n.num) (.bool n.m1) (.bool n.m2) (.bool n.m3), put8_only h5 (by omega) (.int .i64 n.asked) (.int .i64 n.now) (.bool n.stopped) (.bool n.told) (.int .u8 n.num) (.bool n.m1) (.bool n.m2) (.bool n.m3), by simpa [World.setCell] using h6⟩, put8 hz (.int .i64 n.asked) (.int .i64 n.now) (.bool n.stopped) (.bool n.told) (.int .u8 n.num) (.bool n.m1) (.bool n.m2) (.bool n.m3), hg⟩
theorem dn_new {w0 w : World} {b : Nat} {f r n : Fl} {a : Ac} (h : Dk w0 w b f r a) : Dn w0 (w.alloc (.cells n.rc 46)) b f r a w.heap.size n := ⟨dk_alloc h _, Blk.new w 46 _, h.2.2.2.2.2⟩
set_option maxHeartbeats 8000000 in
set_option maxRecDepth 100000 in
theorem does8 (b : Nat) (f : Fl) (a : Ac) (w : World) (p : Int) (h : Fb w b f) (hf : f.ok) (ha : a.ok) (hp : pick a.act 8 = p) (p5 : ¬ p = 5) (p6 : ¬ p = 6) (p7 : ¬ p = 7) : Calls Try.prog 25 #[P b, .agg f.rc, .agg a.arr] w fun e w' => e = .returned (.tuple #[.agg (act f a.x (rule f a.x)).1.rc, .bool true]) ∧ Fb w' b (act f a.x (rule f a.x)).1 ∧ w.grownBy w' (some b) := by
  have HD := Lib.hid (dk_start (a := a) h)
  have hl := h.lt
  have HL := Lib.hid (fun W (hW : Fb W b f) => frame_any b f a.x W hW ha.1 hf)
  have HR := Lib.hid (fun W => rframe_any f a.x W ha.1 hf)
  have HX := Lib.hid (fun W => ref_any a.x W)
  have HP := Lib.hid hp
  clear h hf hp ha
  generalize (act f a.x (rule f a.x)).1 = n at HL HR ⊢
  generalize (act f a.x (rule f a.x)).2 = v at HL HR
  unfold P at HL ⊢
  simp only [Fl.rc, rc, Ac.arr, Fa.cells] at HD HR HX HL ⊢
  go_enter Try.func25, Try.ntmps25
  go_wp2_with fail
  refine (pick_lit HP.out _ (by omega)).mono ?_
  rintro e w' ⟨rfl, rfl⟩
  go_wp2_with fail
  obtain ⟨w1, hw1⟩ : ∃ w1, (((w.alloc (.cells #[.int .i64 f.asked, .int .i64 f.now, .bool f.stopped, .bool f.told, .int .u8 f.num, .bool f.m1, .bool f.m2, .bool f.m3] 46)).alloc (.cells #[.int .i64 a.act, .bool a.x.key, .int .u8 a.x.tid, .bool a.x.sync, .bool a.x.drop, .bool a.x.has, .int .u8 a.x.tl0, .bool a.known, .int .i64 a.cap] 35)).alloc (.cells #[.int .i64 0, .int .i64 0, .bool false, .bool false, .int .u8 0, .bool false, .bool false, .bool false] 46)) = w1 := ⟨_, rfl⟩
  rw [hw1] at HD
  rw [hw1]
  clear hw1
  obtain ⟨⟨pc0, pc1, pc2, pc3, pc4, pc5, pc6, pc7⟩, ⟨pa0, pa1, pa2, pa3, pa4, pa5, pa6, pa7, pa8⟩, ⟨pr0, pr1, pr2, pr3, pr4, pr5, pr6, pr7⟩, ⟨pf0, pf1, pf2, pf3, pf4, pf5, pf6, pf7⟩, ⟨pg0, pg1, pg2, pg3, pg4, pg5, pg6, pg7⟩, pz⟩ := dk_cells HD.out
  have hz1 := HD.out.2.2.2.2.2
  have na1 : ¬ w1.heap.size = w.heap.size := (by omega); have na2 : ¬ w1.heap.size = w.heap.size + 1 := (by omega); have na3 : ¬ w.heap.size = w1.heap.size := (by omega); have na4 : ¬ w.heap.size + 1 = w1.heap.size := (by omega)
  go_upto_region 2 with fail
  go_cut [10, 11, 35, 68, 78] (fun s10 s11 _ _ _ wx => ∃ g : Nat, s10 = .pointer (some ⟨g, 0, none⟩) ∧ s11 = .int .i64 v ∧ Dn w wx b f f a g n)
  case first =>
    go_region_held3 (fun w' => w'.cell? ⟨w.heap.size, 0, none⟩ = some (.int .i64 f.asked) ∧ w'.cell? ⟨w.heap.size, 1, none⟩ = some (.int .i64 f.now) ∧ w'.cell? ⟨w.heap.size, 2, none⟩ = some (.bool f.stopped) ∧ w'.cell? ⟨w.heap.size, 3, none⟩ = some (.bool f.told) ∧ w'.cell? ⟨w.heap.size, 4, none⟩ = some (.int .u8 f.num) ∧ w'.cell? ⟨w.heap.size, 5, none⟩ = some (.bool f.m1) ∧ w'.cell? ⟨w.heap.size, 6, none⟩ = some (.bool f.m2) ∧ w'.cell? ⟨w.heap.size, 7, none⟩ = some (.bool f.m3) ∧ w'.cell? ⟨w.heap.size + 1, 1, none⟩ = some (.bool a.x.key) ∧ w'.cell? ⟨w.heap.size + 1, 2, none⟩ = some (.int .u8 a.x.tid) ∧ w'.cell? ⟨w.heap.size + 1, 3, none⟩ = some (.bool a.x.sync) ∧ w'.cell? ⟨w.heap.size + 1, 4, none⟩ = some (.bool a.x.drop) ∧ w'.cell? ⟨w.heap.size + 1, 5, none⟩ = some (.bool a.x.has) ∧ w'.cell? ⟨w.heap.size + 1, 6, none⟩ = some (.int .u8 a.x.tl0)) (go_keep)
      (first
        | (go_at_call 21; refine (HX.out w1.drew).mono ?_; rintro e w2 ⟨rfl, hb2⟩; have HD2 := Lib.hid (dk_below (by first | exact dk_drew HD.out | exact dk_drew (dk_alloc HD.out _)) hb2); clear hb2; obtain ⟨⟨qc0, qc1, qc2, qc3, qc4, qc5, qc6, qc7⟩, ⟨qa0, qa1, qa2, qa3, qa4, qa5, qa6, qa7, qa8⟩, ⟨qr0, qr1, qr2, qr3, qr4, qr5, qr6, qr7⟩, ⟨qf0, qf1, qf2, qf3, qf4, qf5, qf6, qf7⟩, ⟨qg0, qg1, qg2, qg3, qg4, qg5, qg6, qg7⟩, qz⟩ := dk_cells HD2.out; have nb1 : ¬ w2.heap.size = w.heap.size := (by omega); have nb2 : ¬ w2.heap.size = w.heap.size + 1 := (by omega); have nb3 : ¬ w.heap.size = w2.heap.size := (by omega); have nb4 : ¬ w.heap.size + 1 = w2.heap.size := (by omega))
        | (go_at_call 21; refine (HX.out (w1.alloc (.cells #[.int .i64 0, .int .i64 0, .bool false, .bool false, .int .u8 0, .bool false, .bool false, .bool false] 46)).drew).mono ?_; rintro e w2 ⟨rfl, hb2⟩; have HD2 := Lib.hid (dk_below (by first | exact dk_drew HD.out | exact dk_drew (dk_alloc HD.out _)) hb2); have HZ2 := Lib.hid (zb_below (Blk.drew (zb_new w1)) hb2); clear hb2; obtain ⟨⟨qc0, qc1, qc2, qc3, qc4, qc5, qc6, qc7⟩, ⟨qa0, qa1, qa2, qa3, qa4, qa5, qa6, qa7, qa8⟩, ⟨qr0, qr1, qr2, qr3, qr4, qr5, qr6, qr7⟩, ⟨qf0, qf1, qf2, qf3, qf4, qf5, qf6, qf7⟩, ⟨qg0, qg1, qg2, qg3, qg4, qg5, qg6, qg7⟩, qz⟩ := dk_cells HD2.out; have nb1 : ¬ w2.heap.size = w.heap.size := (by omega); have nb2 : ¬ w2.heap.size = w.heap.size + 1 := (by omega); have nb3 : ¬ w.heap.size = w2.heap.size := (by omega); have nb4 : ¬ w.heap.size + 1 = w2.heap.size := (by omega))
        | (go_at_call 31; have hq := HZ2; clear hq; refine (HR.out w2).mono ?_; rintro e w3 ⟨rfl, hb3⟩; have HD3 := Lib.hid (dk_below (by first | exact HD2.out | exact dk_alloc HD2.out _) hb3); have HZ3 := Lib.hid (zb_below HZ2.out hb3); obtain ⟨⟨zc0, zc1, zc2, zc3, zc4, zc5, zc6, zc7⟩, zf0, zf1, zf2, zf3, zf4, zf5, zf6, zf7⟩ := zb_cells HZ3.out; clear hb3; obtain ⟨⟨rc0, rc1, rc2, rc3, rc4, rc5, rc6, rc7⟩, ⟨ra0, ra1, ra2, ra3, ra4, ra5, ra6, ra7, ra8⟩, ⟨rr0, rr1, rr2, rr3, rr4, rr5, rr6, rr7⟩, ⟨rf0, rf1, rf2, rf3, rf4, rf5, rf6, rf7⟩, ⟨rg0, rg1, rg2, rg3, rg4, rg5, rg6, rg7⟩, rz⟩ := dk_cells HD3.out; have nc1 : ¬ w3.heap.size = w.heap.size := (by omega); have nc2 : ¬ w3.heap.size = w.heap.size + 1 := (by omega); have nc3 : ¬ w.heap.size = w3.heap.size := (by omega); have nc4 : ¬ w.heap.size + 1 = w3.heap.size := (by omega))
        | (go_at_call 31; refine (HR.out w2).mono ?_; rintro e w3 ⟨rfl, hb3⟩; have HD3 := Lib.hid (dk_below (by first | exact HD2.out | exact dk_alloc HD2.out _) hb3); clear hb3; obtain ⟨⟨rc0, rc1, rc2, rc3, rc4, rc5, rc6, rc7⟩, ⟨ra0, ra1, ra2, ra3, ra4, ra5, ra6, ra7, ra8⟩, ⟨rr0, rr1, rr2, rr3, rr4, rr5, rr6, rr7⟩, ⟨rf0, rf1, rf2, rf3, rf4, rf5, rf6, rf7⟩, ⟨rg0, rg1, rg2, rg3, rg4, rg5, rg6, rg7⟩, rz⟩ := dk_cells HD3.out; have nc1 : ¬ w3.heap.size = w.heap.size := (by omega); have nc2 : ¬ w3.heap.size = w.heap.size + 1 := (by omega); have nc3 : ¬ w.heap.size = w3.heap.size := (by omega); have nc4 : ¬ w.heap.size + 1 = w3.heap.size := (by omega))
        | (go_at_call 31; refine (HR.out (w2.alloc (.cells #[.int .i64 0, .int .i64 0, .bool false, .bool false, .int .u8 0, .bool false, .bool false, .bool false] 46))).mono ?_; rintro e w3 ⟨rfl, hb3⟩; have HD3 := Lib.hid (dk_below (by first | exact HD2.out | exact dk_alloc HD2.out _) hb3); have HZ3 := Lib.hid (zb_below (zb_new w2) hb3); obtain ⟨⟨zc0, zc1, zc2, zc3, zc4, zc5, zc6, zc7⟩, zf0, zf1, zf2, zf3, zf4, zf5, zf6, zf7⟩ := zb_cells HZ3.out; clear hb3; obtain ⟨⟨rc0, rc1, rc2, rc3, rc4, rc5, rc6, rc7⟩, ⟨ra0, ra1, ra2, ra3, ra4, ra5, ra6, ra7, ra8⟩, ⟨rr0, rr1, rr2, rr3, rr4, rr5, rr6, rr7⟩, ⟨rf0, rf1, rf2, rf3, rf4, rf5, rf6, rf7⟩, ⟨rg0, rg1, rg2, rg3, rg4, rg5, rg6, rg7⟩, rz⟩ := dk_cells HD3.out; have nc1 : ¬ w3.heap.size = w.heap.size := (by omega); have nc2 : ¬ w3.heap.size = w.heap.size + 1 := (by omega); have nc3 : ¬ w.heap.size = w3.heap.size := (by omega); have nc4 : ¬ w.heap.size + 1 = w3.heap.size := (by omega)))
    all_goals (go_wp2_with fail; go_meet)
    case rel => exact ⟨_, rfl, rfl, dn_new HD3.out⟩
    case rel => exact ⟨_, rfl, rfl, dn_put HD3.out HZ3.out hl (by omega)⟩
    case rel => exact ⟨_, rfl, rfl, dn_put HD3.out HZ3.out hl (by omega)⟩
  case rest =>
    obtain ⟨g, rfl, rfl, hD4⟩ := hcut
    have HD4 := Lib.hid hD4
    have hz4 := hD4.2.2
    clear hD4 HD HR HX HP pc0 pc1 pc2 pc3 pc4 pc5 pc6 pc7 pa0 pa1 pa2 pa3 pa4 pa5 pa6 pa7 pa8 pr0 pr1 pr2 pr3 pr4 pr5 pr6 pr7 pf0 pf1 pf2 pf3 pf4 pf5 pf6 pf7 pg0 pg1 pg2 pg3 pg4 pg5 pg6 pg7 pz
    obtain ⟨⟨tc0, tc1, tc2, tc3, tc4, tc5, tc6, tc7⟩, ⟨ta0, ta1, ta2, ta3, ta4, ta5, ta6, ta7, ta8⟩, ⟨tr0, tr1, tr2, tr3, tr4, tr5, tr6, tr7⟩, ⟨tf0, tf1, tf2, tf3, tf4, tf5, tf6, tf7⟩, tz⟩ := dn_cells HD4.out
    have ne1 : ¬ g = w.heap.size + 1 + 1 := by omega
    have ne2 : ¬ w.heap.size + 1 + 1 = g := by omega
    go_wp2_with fail
    go_region_held3 (fun w' => w'.cell? ⟨g, 0, none⟩ = some (.int .i64 n.asked) ∧ w'.cell? ⟨g, 1, none⟩ = some (.int .i64 n.now) ∧ w'.cell? ⟨g, 2, none⟩ = some (.bool n.stopped) ∧ w'.cell? ⟨g, 3, none⟩ = some (.bool n.told) ∧ w'.cell? ⟨g, 4, none⟩ = some (.int .u8 n.num) ∧ w'.cell? ⟨g, 5, none⟩ = some (.bool n.m1) ∧ w'.cell? ⟨g, 6, none⟩ = some (.bool n.m2) ∧ w'.cell? ⟨g, 7, none⟩ = some (.bool n.m3) ∧ w'.cell? ⟨w.heap.size + 1, 1, none⟩ = some (.bool a.x.key) ∧ w'.cell? ⟨w.heap.size + 1, 2, none⟩ = some (.int .u8 a.x.tid) ∧ w'.cell? ⟨w.heap.size + 1, 3, none⟩ = some (.bool a.x.sync) ∧ w'.cell? ⟨w.heap.size + 1, 4, none⟩ = some (.bool a.x.drop) ∧ w'.cell? ⟨w.heap.size + 1, 5, none⟩ = some (.bool a.x.has) ∧ w'.cell? ⟨w.heap.size + 1, 6, none⟩ = some (.int .u8 a.x.tl0)) (go_keep)
      (first
        | (go_at_call 18; refine (HL.out _ (by first | exact HD4.out.1.1 | exact (dn_drew HD4.out).1.1)).mono ?_; rintro e w5 ⟨rfl, hf5, hg5⟩; have HD5 := Lib.hid (dn_only (by first | exact HD4.out | exact dn_drew HD4.out) hl hf5 hg5); clear hf5 hg5; obtain ⟨⟨uc0, uc1, uc2, uc3, uc4, uc5, uc6, uc7⟩, ⟨ua0, ua1, ua2, ua3, ua4, ua5, ua6, ua7, ua8⟩, ⟨ur0, ur1, ur2, ur3, ur4, ur5, ur6, ur7⟩, ⟨uf0, uf1, uf2, uf3, uf4, uf5, uf6, uf7⟩, uz⟩ := dn_cells HD5.out)
        | (go_at_call 23; refine (is_any b n _ (by first | exact HD5.out.1.1 | exact (dn_drew HD5.out).1.1)).mono ?_; rintro e w6 ⟨rfl, hb6⟩; have HD6 := Lib.hid (dn_below (by first | exact HD5.out | exact dn_drew HD5.out) hb6); clear hb6; obtain ⟨⟨vc0, vc1, vc2, vc3, vc4, vc5, vc6, vc7⟩, ⟨va0, va1, va2, va3, va4, va5, va6, va7, va8⟩, ⟨vr0, vr1, vr2, vr3, vr4, vr5, vr6, vr7⟩, ⟨vf0, vf1, vf2, vf3, vf4, vf5, vf6, vf7⟩, vz⟩ := dn_cells HD6.out))
    obtain ⟨w7, hw7⟩ : ∃ w7, ((((((((w6.setCell ⟨w.heap.size + 1 + 1, 0, none⟩ (.int .i64 n.asked)).setCell ⟨w.heap.size + 1 + 1, 1, none⟩ (.int .i64 n.now)).setCell ⟨w.heap.size + 1 + 1, 2, none⟩ (.bool n.stopped)).setCell ⟨w.heap.size + 1 + 1, 3, none⟩ (.bool n.told)).setCell ⟨w.heap.size + 1 + 1, 4, none⟩ (.int .u8 n.num)).setCell ⟨w.heap.size + 1 + 1, 5, none⟩ (.bool n.m1)).setCell ⟨w.heap.size + 1 + 1, 6, none⟩ (.bool n.m2)).setCell ⟨w.heap.size + 1 + 1, 7, none⟩ (.bool n.m3)) = w7 := ⟨_, rfl⟩
    obtain ⟨⟨k1, k2, k3, k4, k5, k6⟩, k7, k8⟩ := HD6.out
    have hR5 : Blk w7 (w.heap.size + 2) 46 n.rc := by rw [← hw7]; exact put8 k4 (.int .i64 n.asked) (.int .i64 n.now) (.bool n.stopped) (.bool n.told) (.int .u8 n.num) (.bool n.m1) (.bool n.m2) (.bool n.m3)
    have hG5 : w.grownBy w7 (some b) := by rw [← hw7]; exact put8_only k5 (by omega) (.int .i64 n.asked) (.int .i64 n.now) (.bool n.stopped) (.bool n.told) (.int .u8 n.num) (.bool n.m1) (.bool n.m2) (.bool n.m3)
    have hF5 : Fb w7 b n := by rw [← hw7]; exact far8 k1 (by omega) (.int .i64 n.asked) (.int .i64 n.now) (.bool n.stopped) (.bool n.told) (.int .u8 n.num) (.bool n.m1) (.bool n.m2) (.bool n.m3)
    rw [hw7]
    have HE := Lib.hid (And.intro hF5 hG5)
    obtain ⟨d0, d1, d2, d3, d4, d5, d6, d7⟩ := rc_cells hR5
    clear hw7 k1 k2 k3 k4 k5 k6 k7 k8 hR5 hG5 hF5 HD4 HD5 HD6 HL
    clear tc0 tc1 tc2 tc3 tc4 tc5 tc6 tc7 ta0 ta1 ta2 ta3 ta4 ta5 ta6 ta7 ta8 tr0 tr1 tr2 tr3 tr4 tr5 tr6 tr7 tf0 tf1 tf2 tf3 tf4 tf5 tf6 tf7 tz
    clear uc0 uc1 uc2 uc3 uc4 uc5 uc6 uc7 ua0 ua1 ua2 ua3 ua4 ua5 ua6 ua7 ua8 ur0 ur1 ur2 ur3 ur4 ur5 ur6 ur7 uf0 uf1 uf2 uf3 uf4 uf5 uf6 uf7 uz
    clear vc0 vc1 vc2 vc3 vc4 vc5 vc6 vc7 va0 va1 va2 va3 va4 va5 va6 va7 va8 vr0 vr1 vr2 vr3 vr4 vr5 vr6 vr7 vf0 vf1 vf2 vf3 vf4 vf5 vf6 vf7 vz
    go_wp2_with fail
    exact bodyPost_ret (v := .tuple #[.agg #[.int .i64 n.asked, .int .i64 n.now, .bool n.stopped, .bool n.told, .int .u8 n.num, .bool n.m1, .bool n.m2, .bool n.m3], .bool true]) (by simp [results, Try.results25, go_sem, d0, d1, d2, d3, d4, d5, d6, d7]) rfl ⟨rfl, HE.out⟩
end Go.Proofs.Ytnodnngakopooaa
