/- Now rises by a key frame or a Sync frame alone: the walk of the law LayerRises. Conditions: none but that each argument is of its kind. -/
import Derived.Test.YtnodnngakopooaaJRef
import Derived.Test.YtnodnngakopooaaHLaw
import Derived.Deep.CutBlock
import Derived.Test.YtnodnngakopooaaIActs
namespace Go.Proofs.Ytnodnngakopooaa
open Go.RowKit

set_option maxRecDepth 100000 in
theorem rises_long (A : Option Addr) (len cap : Nat) (w : World) (hl : 200 < len) : Calls Try.prog 4 #[.slice A len cap] w fun e w' => e = .returned (.bool true) ∧ Below w.heap.size w w' := by
  go_enter Try.func4, Try.ntmps4
  go_wp2_with (first
    | (go_at_call 8; refine (works_any _).mono ?_; rintro e w' ⟨rfl, hb⟩))
  go_ret
  exact ⟨rfl, hb⟩
/-- What a step leaves: the filter, the fate, whether a frame came. -/
def Left (f f3 : Fl) (x : Fa) (v : Int) (fr : Bool) : Prop :=
  f3.ok ∧ ((fr = false ∧ v = 1 ∨ fr = true ∧ v = 1 ∨ fr = true ∧ v = 2 ∧ f3.stopped = true) ∧ f3.now ≤ f.now ∨ fr = true ∧ v = 0 ∧ (f3.now ≤ f.now ∨ x.key = true ∨ x.sync = true) ∧ (f.stopped = false ∨ x.key = true) ∧ f3.stopped = false ∧ x.ly ≤ f3.now)
theorem left_quiet {f f3 : Fl} {x : Fa} (h : f3.ok) (hn : f3.now ≤ f.now) : Left f f3 x 1 false := ⟨h, .inl ⟨.inl ⟨rfl, rfl⟩, hn⟩⟩
theorem left_frame (f : Fl) (x : Fa) (hf : f.ok) (hx : x.ok) : Left f (act f x (rule f x)).1 x (act f x (rule f x)).2 true := by
  obtain ⟨hok3, hup, hsk, hem, hsp⟩ := frame_law f x hf hx
  rcases act_fate f x (rule f x) with hv | hv | hv
  · rw [hv]
    obtain ⟨h1, h2⟩ := hem hv
    refine ⟨hok3, .inr ⟨rfl, rfl, ?_, ?_, h1, h2⟩⟩
    · rcases Int.lt_or_le f.now (act f x (rule f x)).1.now with h | h
      · exact .inr (hup h).2
      · exact .inl h
    · cases hs : f.stopped
      · exact .inl rfl
      · exact .inr (hsk hs hv)
  · rw [hv]
    refine ⟨hok3, .inl ⟨.inr (.inl ⟨rfl, rfl⟩), ?_⟩⟩
    rcases Int.lt_or_le f.now (act f x (rule f x)).1.now with h | h
    · have := (hup h).1; omega
    · exact h
  · rw [hv]
    refine ⟨hok3, .inl ⟨.inr (.inr ⟨rfl, rfl, hsp hv⟩), ?_⟩⟩
    rcases Int.lt_or_le f.now (act f x (rule f x)).1.now with h | h
    · have := (hup h).1; omega
    · exact h
set_option maxHeartbeats 16000000 in
set_option maxRecDepth 100000 in
theorem rises_main (A : Option Addr) (cap : Nat) (xs : List Ac) (w : World) (hl : xs.length ≤ 200) (hA : Acts w w.heap.size A xs) : Calls Try.prog 4 #[.slice A xs.length cap] w fun e w' => e = .returned (.bool true) ∧ Below w.heap.size w w' := by
  have HA := Lib.hid hA
  clear hA
  go_enter Try.func4, Try.ntmps4
  go_wp2_with fail
  refine (new_any w).mono ?_
  rintro e w1 ⟨rfl, hw1⟩
  have hf1 : Fb w1 w.heap.size new := by rw [hw1]; exact Blk.new w 59 _
  have hb1 : Below w.heap.size w w1 := by rw [hw1]; exact (Below.refl _ w).alloc (Nat.le_refl _) _
  have HF := Lib.hid hf1
  have HB := Lib.hid hb1
  clear hw1 hf1 hb1
  unfold P
  go_wp2_with fail
  go_loopw [4] (fun v wr => ∃ (k : Nat) (f : Fl), v = .int .i64 k ∧ k ≤ xs.length ∧ f.ok ∧ Fb wr w.heap.size f ∧ Below w.heap.size w wr) (fun v _ => xs.length - (intOf v).toNat)
  case atStart => exact ⟨0, new, rfl, Nat.zero_le _, new_law, HF.out, HB.out⟩
  case round =>
    obtain ⟨k, f, rfl, hk, hok, hf, hb⟩ := hrel
    have HF := Lib.hid hf
    have HB := Lib.hid hb
    clear hf hb
    by_cases hlt : k < xs.length
    · obtain ⟨a, ha⟩ : ∃ a, xs[k]? = some a := ⟨_, List.getElem?_eq_getElem hlt⟩
      obtain ⟨ad, hAd, hab, hc⟩ := HA.out.2 (by omega)
      subst hAd
      obtain ⟨⟨hx, hd1, hd2⟩, hcell⟩ := hc k a ha
      have hkk : (k : Int) < xs.length := by omega
      have kk0 : (0 : Int) ≤ (k : Int) := by omega
      have hcw : ∀ c, c < 9 → wr.cell? (ad.add (k * 9 + c)) = a.cells[c]? := fun c hc => (HB.out.cell (by rw [block_of_add]; exact hab)).trans (hcell c hc)
      have e0 : wr.cell? (ad.add (k * 9)) = some (.int .i64 a.act) := hcw 0 (by omega)
      have ez : ∀ c, wr.cell? ⟨(ad.add (k * 9)).block, (ad.add (k * 9)).off + (c + 1), none⟩ = wr.cell? (ad.add (k * 9 + (c + 1))) := by
        intro c
        show wr.cell? ((ad.add (k * 9)).add (c + 1)) = _
        rw [Go.Deep.add_add]
      have e1 : wr.cell? ⟨(ad.add (k * 9)).block, (ad.add (k * 9)).off + 1, none⟩ = some (.bool a.x.key) := (ez 0).trans (hcw 1 (by omega))
      have e2 : wr.cell? ⟨(ad.add (k * 9)).block, (ad.add (k * 9)).off + 2, none⟩ = some (.int .u8 a.x.tid) := (ez 1).trans (hcw 2 (by omega))
      have e3 : wr.cell? ⟨(ad.add (k * 9)).block, (ad.add (k * 9)).off + 3, none⟩ = some (.bool a.x.sync) := (ez 2).trans (hcw 3 (by omega))
      have e4 : wr.cell? ⟨(ad.add (k * 9)).block, (ad.add (k * 9)).off + 4, none⟩ = some (.bool a.x.drop) := (ez 3).trans (hcw 4 (by omega))
      have e5 : wr.cell? ⟨(ad.add (k * 9)).block, (ad.add (k * 9)).off + 5, none⟩ = some (.bool a.x.has) := (ez 4).trans (hcw 5 (by omega))
      have e6 : wr.cell? ⟨(ad.add (k * 9)).block, (ad.add (k * 9)).off + 6, none⟩ = some (.int .u8 a.x.tl0) := (ez 5).trans (hcw 6 (by omega))
      have e7 : wr.cell? ⟨(ad.add (k * 9)).block, (ad.add (k * 9)).off + 7, none⟩ = some (.bool a.known) := (ez 6).trans (hcw 7 (by omega))
      have e8 : wr.cell? ⟨(ad.add (k * 9)).block, (ad.add (k * 9)).off + 8, none⟩ = some (.int .i64 a.cap) := (ez 7).trans (hcw 8 (by omega))
      clear hc hcell hcw ez ha
      go_wp2_with fail
      obtain ⟨w2, hw2⟩ : ∃ w2, wr.alloc (.cells #[.int .i64 a.act, .bool a.x.key, .int .u8 a.x.tid, .bool a.x.sync, .bool a.x.drop, .bool a.x.has, .int .u8 a.x.tl0, .bool a.known, .int .i64 a.cap] 35) = w2 := ⟨_, rfl⟩
      have hg2 : Blk w2 wr.heap.size 35 #[.int .i64 a.act, .bool a.x.key, .int .u8 a.x.tid, .bool a.x.sync, .bool a.x.drop, .bool a.x.has, .int .u8 a.x.tl0, .bool a.known, .int .i64 a.cap] := by rw [← hw2]; exact Blk.new wr 35 _
      have hf2 : Fb w2 w.heap.size f := by rw [← hw2]; exact HF.out.alloc _
      have hb2 : Below w.heap.size w w2 := by rw [← hw2]; exact HB.out.alloc HB.out.size _
      have hlt2 := HF.out.lt
      rw [hw2]
      obtain ⟨g, hg⟩ : ∃ g, wr.heap.size = g := ⟨_, rfl⟩
      rw [hg] at hg2 hlt2 ⊢
      have HF2 := Lib.hid hf2
      have HB2 := Lib.hid hb2
      have HG2 := Lib.hid hg2
      have y0 : w2.cell? ⟨g, 0, none⟩ = some (.int .i64 a.act) := hg2.cell 0
      have y1 : w2.cell? ⟨g, 1, none⟩ = some (.bool a.x.key) := hg2.cell 1
      have y2 : w2.cell? ⟨g, 2, none⟩ = some (.int .u8 a.x.tid) := hg2.cell 2
      have y3 : w2.cell? ⟨g, 3, none⟩ = some (.bool a.x.sync) := hg2.cell 3
      have y4 : w2.cell? ⟨g, 4, none⟩ = some (.bool a.x.drop) := hg2.cell 4
      have y5 : w2.cell? ⟨g, 5, none⟩ = some (.bool a.x.has) := hg2.cell 5
      have y6 : w2.cell? ⟨g, 6, none⟩ = some (.int .u8 a.x.tl0) := hg2.cell 6
      have y7 : w2.cell? ⟨g, 7, none⟩ = some (.bool a.known) := hg2.cell 7
      have y8 : w2.cell? ⟨g, 8, none⟩ = some (.int .i64 a.cap) := hg2.cell 8
      clear hw2 hg2 hf2 hb2 hg HF HB e0 e1 e2 e3 e4 e5 e6 e7 e8
      refine (now_any _ _ _ HF2.out).mono ?_
      rintro e w' ⟨rfl, rfl⟩
      go_wp2_with fail
      refine (stopped_any _ _ _ HF2.out).mono ?_
      rintro e w' ⟨rfl, rfl⟩
      go_wp2_with fail
      obtain ⟨p, hp⟩ : ∃ p, pick a.act 8 = p := ⟨_, rfl⟩
      have HP := Lib.hid hp
      clear hp
      refine (pick_lit HP.out _ (by omega)).mono ?_
      rintro e w' ⟨rfl, rfl⟩
      clear HP
      have HX := Lib.hid hx
      have HOK := Lib.hid hok
      clear hx hok
      go_upto_block 2 with fail
      go_cut [8, 9] (fun s8 s9 wx => ∃ (f3 : Fl) (v : Int) (fr : Bool), s8 = .int .i64 v ∧ s9 = .bool fr ∧ Left f f3 a.x v fr ∧ Fb wx w.heap.size f3 ∧ Below w.heap.size w wx ∧ Blk wx g 35 #[.int .i64 a.act, .bool a.x.key, .int .u8 a.x.tid, .bool a.x.sync, .bool a.x.drop, .bool a.x.has, .int .u8 a.x.tl0, .bool a.known, .int .i64 a.cap])
      case first =>
        as_aux_lemma =>
          by_cases h5 : p = 5
          · subst h5
            have hL3 := left_quiet (x := a.x) (lost_law f a.known a.x.tid a.x.drop HOK.out).1 (lost_law f a.known a.x.tid a.x.drop HOK.out).2
            have HL3' := Lib.hid hL3
            clear hL3
            go_wp2_with fail
            refine (lost_any w.heap.size f a.known a.x.tid a.x.drop w2 HX.out.1.1 HX.out.1.2 HOK.out HF2.out).mono ?_
            rintro e w3 ⟨rfl, hf3, hg3⟩
            have hL3 := HL3'.out
            clear HL3'
            generalize (f.lost a.known a.x.tid a.x.drop).1 = f3 at hf3 hL3
            have hB3 := below_only (Nat.le_refl _) HB2.out hg3
            have hG3 := HG2.out.grown hg3 (by intro e; cases e; omega)
            have HF3 := Lib.hid hf3
            have HB3 := Lib.hid hB3
            have HG3 := Lib.hid hG3
            have HL3 := Lib.hid hL3
            clear hf3 hg3 hB3 hG3 hL3 y0 y1 y2 y3 y4 y5 y6 y7 y8 HF2 HB2 HG2
            go_wp2_with fail
            go_meet
            case rel => exact ⟨_, _, _, rfl, rfl, HL3.out, HF3.out, HB3.out, HG3.out⟩
          by_cases h6 : p = 6
          · subst h6
            clear h5
            have hL3 := left_quiet (x := a.x) (cap_law f a.cap HOK.out).1 (cap_law f a.cap HOK.out).2
            have HL3' := Lib.hid hL3
            clear hL3
            go_wp2_with fail
            refine (cap_any w.heap.size f a.cap w2 HF2.out).mono ?_
            rintro e w3 ⟨rfl, hf3, hg3⟩
            have hL3 := HL3'.out
            clear HL3'
            generalize f.cap a.cap = f3 at hf3 hL3
            have hB3 := below_only (Nat.le_refl _) HB2.out hg3
            have hG3 := HG2.out.grown hg3 (by intro e; cases e; omega)
            have HF3 := Lib.hid hf3
            have HB3 := Lib.hid hB3
            have HG3 := Lib.hid hG3
            have HL3 := Lib.hid hL3
            clear hf3 hg3 hB3 hG3 hL3 y0 y1 y2 y3 y4 y5 y6 y7 y8 HF2 HB2 HG2
            go_wp2_with fail
            go_meet
            case rel => exact ⟨_, _, _, rfl, rfl, HL3.out, HF3.out, HB3.out, HG3.out⟩
          by_cases h7 : p = 7
          · subst h7
            clear h5 h6
            have hL3 := left_quiet (f := f) (x := a.x) (halt_law f HOK.out) (Int.le_refl _)
            have HL3' := Lib.hid hL3
            clear hL3
            go_wp2_with fail
            refine (halt_any w.heap.size f w2 HF2.out).mono ?_
            rintro e w3 ⟨rfl, hf3, hg3⟩
            have hL3 := HL3'.out
            clear HL3'
            obtain ⟨f3, hf3e⟩ : ∃ f3 : Fl, { f with stopped := true } = f3 := ⟨_, rfl⟩
            rw [hf3e] at hf3 hL3
            clear hf3e
            have hB3 := below_only (Nat.le_refl _) HB2.out hg3
            have hG3 := HG2.out.grown hg3 (by intro e; cases e; omega)
            have HF3 := Lib.hid hf3
            have HB3 := Lib.hid hB3
            have HG3 := Lib.hid hG3
            have HL3 := Lib.hid hL3
            clear hf3 hg3 hB3 hG3 hL3 y0 y1 y2 y3 y4 y5 y6 y7 y8 HF2 HB2 HG2
            go_wp2_with fail
            go_meet
            case rel => exact ⟨_, _, _, rfl, rfl, HL3.out, HF3.out, HB3.out, HG3.out⟩
          have hL3 := left_frame f a.x HOK.out HX.out
          have HL3' := Lib.hid hL3
          clear hL3
          go_wp2_with fail
          refine (frame_any w.heap.size f a.x w2 HF2.out HX.out HOK.out).mono ?_
          rintro e w3 ⟨rfl, hf3, hg3⟩
          have hL3 := HL3'.out
          clear HL3'
          generalize (act f a.x (rule f a.x)).1 = f3 at hf3 hL3
          generalize (act f a.x (rule f a.x)).2 = v at hL3 ⊢
          have hB3 := below_only (Nat.le_refl _) HB2.out hg3
          have hG3 := HG2.out.grown hg3 (by intro e; cases e; omega)
          have HF3 := Lib.hid hf3
          have HB3 := Lib.hid hB3
          have HG3 := Lib.hid hG3
          have HL3 := Lib.hid hL3
          clear hf3 hg3 hB3 hG3 hL3 y0 y1 y2 y3 y4 y5 y6 y7 y8 HF2 HB2 HG2
          go_wp2_with fail
          go_meet
          case rel => exact ⟨_, _, _, rfl, rfl, HL3.out, HF3.out, HB3.out, HG3.out⟩
      case rest =>
        obtain ⟨f3, v, fr, rfl, rfl, hL, hf3, hb3, hg3⟩ := hcut
        obtain ⟨hok3, hL⟩ := hL
        have HF3 := Lib.hid hf3
        have HB3 := Lib.hid hb3
        have OK3 := Lib.hid hok3
        have HG3 := Lib.hid hg3
        obtain ⟨-, ⟨n1, n2, n3⟩, n4⟩ := hok3
        have n6 : ¬ f3.now > f3.asked := by omega
        clear hf3 hb3 hg3 y0 y1 y2 y3 y4 y5 y6 y7 y8 HF2 HB2 HG2
        rcases hL with ⟨hL, hn⟩ | ⟨rfl, rfl, hup, hsk, hst3, hly⟩
        · have n5 : ¬ f3.now > f.now := by omega
          clear HX HOK HG3
          rcases hL with ⟨rfl, rfl⟩ | ⟨rfl, rfl⟩ | ⟨rfl, rfl, hst⟩
          · as_aux_lemma =>
              by_cases hneg : f3.now < 0
              · have hst := n4 (by omega)
                clear n4
                go_wp2_with (first
                  | (go_at_call 12; refine (now_any _ _ _ HF3.out).mono ?_; rintro e w' ⟨rfl, rfl⟩)
                  | (go_at_call 19; refine (asked_any _ _ _ HF3.out).mono ?_; rintro e w' ⟨rfl, rfl⟩)
                  | (go_at_call 13; refine (stopped_any _ _ _ HF3.out).mono ?_; rintro e w' ⟨rfl, rfl⟩))
                all_goals
                  go_roundw
                  case rel => exact ⟨k + 1, f3, by simp, by omega, OK3.out, HF3.out, HB3.out⟩
                  case measure => simp [intOf]; omega
              · clear n4
                go_wp2_with (first
                  | (go_at_call 12; refine (now_any _ _ _ HF3.out).mono ?_; rintro e w' ⟨rfl, rfl⟩)
                  | (go_at_call 19; refine (asked_any _ _ _ HF3.out).mono ?_; rintro e w' ⟨rfl, rfl⟩)
                  | (go_at_call 13; refine (stopped_any _ _ _ HF3.out).mono ?_; rintro e w' ⟨rfl, rfl⟩))
                all_goals
                  go_roundw
                  case rel => exact ⟨k + 1, f3, by simp, by omega, OK3.out, HF3.out, HB3.out⟩
                  case measure => simp [intOf]; omega
          · as_aux_lemma =>
              by_cases hneg : f3.now < 0
              · have hst := n4 (by omega)
                clear n4
                go_wp2_with (first
                  | (go_at_call 12; refine (now_any _ _ _ HF3.out).mono ?_; rintro e w' ⟨rfl, rfl⟩)
                  | (go_at_call 19; refine (asked_any _ _ _ HF3.out).mono ?_; rintro e w' ⟨rfl, rfl⟩)
                  | (go_at_call 13; refine (stopped_any _ _ _ HF3.out).mono ?_; rintro e w' ⟨rfl, rfl⟩))
                all_goals
                  go_roundw
                  case rel => exact ⟨k + 1, f3, by simp, by omega, OK3.out, HF3.out, HB3.out⟩
                  case measure => simp [intOf]; omega
              · clear n4
                go_wp2_with (first
                  | (go_at_call 12; refine (now_any _ _ _ HF3.out).mono ?_; rintro e w' ⟨rfl, rfl⟩)
                  | (go_at_call 19; refine (asked_any _ _ _ HF3.out).mono ?_; rintro e w' ⟨rfl, rfl⟩)
                  | (go_at_call 13; refine (stopped_any _ _ _ HF3.out).mono ?_; rintro e w' ⟨rfl, rfl⟩))
                all_goals
                  go_roundw
                  case rel => exact ⟨k + 1, f3, by simp, by omega, OK3.out, HF3.out, HB3.out⟩
                  case measure => simp [intOf]; omega
          · as_aux_lemma =>
              by_cases hneg : f3.now < 0
              · clear hn
                clear n4
                go_wp2_with (first
                  | (go_at_call 12; refine (now_any _ _ _ HF3.out).mono ?_; rintro e w' ⟨rfl, rfl⟩)
                  | (go_at_call 19; refine (asked_any _ _ _ HF3.out).mono ?_; rintro e w' ⟨rfl, rfl⟩)
                  | (go_at_call 13; refine (stopped_any _ _ _ HF3.out).mono ?_; rintro e w' ⟨rfl, rfl⟩))
                all_goals
                  go_roundw
                  case rel => exact ⟨k + 1, f3, by simp, by omega, OK3.out, HF3.out, HB3.out⟩
                  case measure => simp [intOf]; omega
              · clear n4
                go_wp2_with (first
                  | (go_at_call 12; refine (now_any _ _ _ HF3.out).mono ?_; rintro e w' ⟨rfl, rfl⟩)
                  | (go_at_call 19; refine (asked_any _ _ _ HF3.out).mono ?_; rintro e w' ⟨rfl, rfl⟩)
                  | (go_at_call 13; refine (stopped_any _ _ _ HF3.out).mono ?_; rintro e w' ⟨rfl, rfl⟩))
                all_goals
                  go_roundw
                  case rel => exact ⟨k + 1, f3, by simp, by omega, OK3.out, HF3.out, HB3.out⟩
                  case measure => simp [intOf]; omega
        · have hly0 := a.x.ly_bd HX.out
          have HTID := Lib.hid (fun W => tid_any a.x W HX.out)
          have HREF := Lib.hid (fun W => ref_any a.x W)
          have nn : ¬ f3.now < 0 := by omega
          have y1 : wc.cell? ⟨g, 1, none⟩ = some (.bool a.x.key) := HG3.out.cell 1
          have y2 : wc.cell? ⟨g, 2, none⟩ = some (.int .u8 a.x.tid) := HG3.out.cell 2
          have y3 : wc.cell? ⟨g, 3, none⟩ = some (.bool a.x.sync) := HG3.out.cell 3
          have y4 : wc.cell? ⟨g, 4, none⟩ = some (.bool a.x.drop) := HG3.out.cell 4
          have y5 : wc.cell? ⟨g, 5, none⟩ = some (.bool a.x.has) := HG3.out.cell 5
          have y6 : wc.cell? ⟨g, 6, none⟩ = some (.int .u8 a.x.tl0) := HG3.out.cell 6
          clear HG3
          generalize a.x.ly = l at hly hly0 HTID
          have hly3 : ¬ l > f3.now := by omega
          clear n4 HX HOK
          obtain ⟨act, ⟨key, tid, sync, drop, has, tl0⟩, known, acap⟩ := a
          simp only at y1 y2 y3 y4 y5 y6 hup hsk hd1 hd2
          simp only [Fa.cells] at HTID HREF
          cases key
          · have hs0 : f.stopped = false := by rcases hsk with h | h; exact h; cases h
            cases sync
            · as_aux_lemma =>
                have n5 : ¬ f3.now > f.now := by rcases hup with h | h | h; omega; cases h; cases h
                clear hup hsk
                go_wp2_with (first
                  | (go_at_call 12; refine (now_any _ _ _ HF3.out).mono ?_; rintro e w' ⟨rfl, rfl⟩)
                  | (go_at_call 19; refine (asked_any _ _ _ HF3.out).mono ?_; rintro e w' ⟨rfl, rfl⟩)
                  | (go_at_call 13; refine (stopped_any _ _ _ HF3.out).mono ?_; rintro e w' ⟨rfl, rfl⟩))
                all_goals
                  refine (HREF.out wc).mono ?_
                  rintro e w4 ⟨rfl, hb4⟩
                  have HF4 := Lib.hid (HF3.out.below hb4 HF3.out.lt)
                  have HB4 := Lib.hid (HB3.out.trans (hb4.mono HB3.out.size))
                  clear hb4 y1 y2 y3 y4 y5 y6
                  go_wp2_with fail
                  refine (HTID.out w4).mono ?_
                  rintro e w5 ⟨rfl, hb5⟩
                  have HF5 := Lib.hid (HF4.out.below hb5 HF4.out.lt)
                  have HB5 := Lib.hid (HB4.out.trans (hb5.mono HB4.out.size))
                  clear hb5
                  go_wp2_with (first
                    | (go_at_call 12; refine (now_any _ _ _ HF5.out).mono ?_; rintro e w' ⟨rfl, rfl⟩)
                    | (go_at_call 19; refine (asked_any _ _ _ HF5.out).mono ?_; rintro e w' ⟨rfl, rfl⟩)
                    | (go_at_call 13; refine (stopped_any _ _ _ HF5.out).mono ?_; rintro e w' ⟨rfl, rfl⟩))
                  all_goals
                    go_roundw
                    case rel => exact ⟨k + 1, f3, by simp, by omega, OK3.out, HF5.out, HB5.out⟩
                    case measure => simp [intOf]; omega
            · as_aux_lemma =>
                clear hup hsk
                go_wp2_with (first
                  | (go_at_call 12; refine (now_any _ _ _ HF3.out).mono ?_; rintro e w' ⟨rfl, rfl⟩)
                  | (go_at_call 19; refine (asked_any _ _ _ HF3.out).mono ?_; rintro e w' ⟨rfl, rfl⟩)
                  | (go_at_call 13; refine (stopped_any _ _ _ HF3.out).mono ?_; rintro e w' ⟨rfl, rfl⟩))
                all_goals
                  refine (HREF.out wc).mono ?_
                  rintro e w4 ⟨rfl, hb4⟩
                  have HF4 := Lib.hid (HF3.out.below hb4 HF3.out.lt)
                  have HB4 := Lib.hid (HB3.out.trans (hb4.mono HB3.out.size))
                  clear hb4 y1 y2 y3 y4 y5 y6
                  go_wp2_with fail
                  refine (HTID.out w4).mono ?_
                  rintro e w5 ⟨rfl, hb5⟩
                  have HF5 := Lib.hid (HF4.out.below hb5 HF4.out.lt)
                  have HB5 := Lib.hid (HB4.out.trans (hb5.mono HB4.out.size))
                  clear hb5
                  go_wp2_with (first
                    | (go_at_call 12; refine (now_any _ _ _ HF5.out).mono ?_; rintro e w' ⟨rfl, rfl⟩)
                    | (go_at_call 19; refine (asked_any _ _ _ HF5.out).mono ?_; rintro e w' ⟨rfl, rfl⟩)
                    | (go_at_call 13; refine (stopped_any _ _ _ HF5.out).mono ?_; rintro e w' ⟨rfl, rfl⟩))
                  all_goals
                    go_roundw
                    case rel => exact ⟨k + 1, f3, by simp, by omega, OK3.out, HF5.out, HB5.out⟩
                    case measure => simp [intOf]; omega
          · as_aux_lemma =>
              clear hup hsk
              go_wp2_with (first
                | (go_at_call 12; refine (now_any _ _ _ HF3.out).mono ?_; rintro e w' ⟨rfl, rfl⟩)
                | (go_at_call 19; refine (asked_any _ _ _ HF3.out).mono ?_; rintro e w' ⟨rfl, rfl⟩)
                | (go_at_call 13; refine (stopped_any _ _ _ HF3.out).mono ?_; rintro e w' ⟨rfl, rfl⟩))
              all_goals
                refine (HREF.out wc).mono ?_
                rintro e w4 ⟨rfl, hb4⟩
                have HF4 := Lib.hid (HF3.out.below hb4 HF3.out.lt)
                have HB4 := Lib.hid (HB3.out.trans (hb4.mono HB3.out.size))
                clear hb4 y1 y2 y3 y4 y5 y6
                go_wp2_with fail
                refine (HTID.out w4).mono ?_
                rintro e w5 ⟨rfl, hb5⟩
                have HF5 := Lib.hid (HF4.out.below hb5 HF4.out.lt)
                have HB5 := Lib.hid (HB4.out.trans (hb5.mono HB4.out.size))
                clear hb5
                go_wp2_with (first
                  | (go_at_call 12; refine (now_any _ _ _ HF5.out).mono ?_; rintro e w' ⟨rfl, rfl⟩)
                  | (go_at_call 19; refine (asked_any _ _ _ HF5.out).mono ?_; rintro e w' ⟨rfl, rfl⟩)
                  | (go_at_call 13; refine (stopped_any _ _ _ HF5.out).mono ?_; rintro e w' ⟨rfl, rfl⟩))
                all_goals
                  go_roundw
                  case rel => exact ⟨k + 1, f3, by simp, by omega, OK3.out, HF5.out, HB5.out⟩
                  case measure => simp [intOf]; omega
    · obtain rfl : k = xs.length := by omega
      go_wp2_with (go_at_call 8; refine (works_any _).mono ?_; rintro e w2 ⟨rfl, hb2⟩; have HB2 := Lib.hid (HB.out.trans (hb2.mono HB.out.size)); clear hb2)
      go_ret
      exact ⟨rfl, HB2.out⟩
theorem rises_any (v : Value) (w : World) (h : IsActs w v) : Calls Try.prog 4 #[v] w fun e w' => e = .returned (.bool true) ∧ Below w.heap.size w w' := by
  obtain ⟨A, cap, xs, rfl, -, -, hA⟩ := h
  rcases Nat.lt_or_ge 200 xs.length with hl | hl
  · exact rises_long A xs.length cap w hl
  · exact rises_main A cap xs w hl hA
end Go.Proofs.Ytnodnngakopooaa
