/- May what was let through be decoded: counts and decodes by contracts. Conditions: those each states. -/
import Derived.Test.YtnodnngakopooaaSPast
namespace Go.Proofs.Ytnodnngakopooaa
open Go.RowKit

def Pa.arr (p : Pa) : Array Value := #[.bool p.frame, .bool p.known, .bool p.key, .int .i64 p.tid, .bool p.sync, .bool p.drop, .bool p.told, .int .u8 p.tl0, .bool p.out]
theorem counts_no (p : Pa) (a b : Int) (w : World) (h : p.counts a b = false) : Calls Try.prog 26 #[.agg p.arr, .int .i64 a, .int .i64 b] w fun e w' => e = .returned (.bool false) ∧ w' = w.alloc (.cells p.arr 27) := by
  obtain ⟨frame, known, key, tid, sync, drop, told, tl0, out⟩ := p
  simp only [Pa.counts] at h
  simp only [Pa.arr]
  cases out
  · cases drop
    · cases known
      · simp at h
      · simp only [Bool.or_self, Bool.not_false, Bool.not_true, Bool.false_or, Bool.true_and, Bool.and_eq_false_imp, decide_eq_true_eq, decide_eq_false_iff_not] at h
        by_cases h1 : a ≤ tid
        · have h2 := h h1
          clear h
          go_enter Try.func26, Try.ntmps26
          go_wp2
          go_ret
          exact ⟨rfl, rfl⟩
        · clear h
          go_enter Try.func26, Try.ntmps26
          go_wp2
          go_ret
          exact ⟨rfl, rfl⟩
    · clear h
      go_enter Try.func26, Try.ntmps26
      go_wp2
      go_ret
      exact ⟨rfl, rfl⟩
  · clear h
    go_enter Try.func26, Try.ntmps26
    go_wp2
    go_ret
    exact ⟨rfl, rfl⟩
/-- What lies in memory of what came. -/
def Pasts (w : World) (A : Option Addr) (ps : List Pa) : Prop := ps.length ≤ 150 ∧ ∀ (j : Nat) p, ps[j]? = some p → ∃ ad, A = some ad ∧ ad.block < w.heap.size ∧ p.tid ≤ 3 ∧ 0 ≤ p.tid ∧ ∀ c, c < 9 → w.cell? (ad.add (j * 9 + c)) = p.cells[c]?
theorem pasts_below {w w' : World} {A : Option Addr} {ps : List Pa} (h : Pasts w A ps) (hb : Below w.heap.size w w') : Pasts w' A ps := by
  refine ⟨h.1, fun j p hj => ?_⟩
  obtain ⟨ad, e, hab, t1, t0, hc⟩ := h.2 j p hj
  exact ⟨ad, e, Nat.lt_of_lt_of_le hab hb.size, t1, t0, fun c hc' => (hb.cell (by rw [block_of_add]; exact hab)).trans (hc c hc')⟩
theorem past_cells {w : World} {A : Option Addr} {ps : List Pa} (h : Pasts w A ps) {j : Nat} {p : Pa} (hj : ps[j]? = some p) : ∃ ad, A = some ad ∧
    (w.cell? (ad.add (j * 9)) = some (.bool p.frame) ∧ w.cell? ⟨(ad.add (j * 9)).block, (ad.add (j * 9)).off + 1, none⟩ = some (.bool p.known) ∧ w.cell? ⟨(ad.add (j * 9)).block, (ad.add (j * 9)).off + 2, none⟩ = some (.bool p.key) ∧ w.cell? ⟨(ad.add (j * 9)).block, (ad.add (j * 9)).off + 3, none⟩ = some (.int .i64 p.tid) ∧
    w.cell? ⟨(ad.add (j * 9)).block, (ad.add (j * 9)).off + 4, none⟩ = some (.bool p.sync) ∧ w.cell? ⟨(ad.add (j * 9)).block, (ad.add (j * 9)).off + 5, none⟩ = some (.bool p.drop) ∧ w.cell? ⟨(ad.add (j * 9)).block, (ad.add (j * 9)).off + 6, none⟩ = some (.bool p.told) ∧ w.cell? ⟨(ad.add (j * 9)).block, (ad.add (j * 9)).off + 7, none⟩ = some (.int .u8 p.tl0) ∧
    w.cell? ⟨(ad.add (j * 9)).block, (ad.add (j * 9)).off + 8, none⟩ = some (.bool p.out)) ∧ p.tid ≤ 3 ∧ 0 ≤ p.tid := by
  obtain ⟨ad, e, hab, t1, t0, hc⟩ := h.2 j p hj
  have ez : ∀ c, w.cell? ⟨(ad.add (j * 9)).block, (ad.add (j * 9)).off + (c + 1), none⟩ = w.cell? (ad.add (j * 9 + (c + 1))) := by
    intro c
    show w.cell? ((ad.add (j * 9)).add (c + 1)) = _
    rw [Go.Deep.add_add]
  exact ⟨ad, e, ⟨hc 0 (by omega), (ez 0).trans (hc 1 (by omega)), (ez 1).trans (hc 2 (by omega)), (ez 2).trans (hc 3 (by omega)), (ez 3).trans (hc 4 (by omega)), (ez 4).trans (hc 5 (by omega)), (ez 5).trans (hc 6 (by omega)), (ez 6).trans (hc 7 (by omega)), (ez 7).trans (hc 8 (by omega))⟩, t1, t0⟩
theorem parr_cells {w : World} {g : Nat} {x : Pa} (h : Blk w g 27 x.arr) : w.cell? ⟨g, 0, none⟩ = some (.bool x.frame) ∧ w.cell? ⟨g, 1, none⟩ = some (.bool x.known) ∧ w.cell? ⟨g, 2, none⟩ = some (.bool x.key) ∧ w.cell? ⟨g, 3, none⟩ = some (.int .i64 x.tid) ∧ w.cell? ⟨g, 4, none⟩ = some (.bool x.sync) ∧ w.cell? ⟨g, 5, none⟩ = some (.bool x.drop) ∧ w.cell? ⟨g, 6, none⟩ = some (.bool x.told) ∧ w.cell? ⟨g, 7, none⟩ = some (.int .u8 x.tl0) ∧ w.cell? ⟨g, 8, none⟩ = some (.bool x.out) :=
  ⟨h.cell 0, h.cell 1, h.cell 2, h.cell 3, h.cell 4, h.cell 5, h.cell 6, h.cell 7, h.cell 8⟩
theorem mark_next (m : Mk) (i : Int) (p : Pa) : m.next i p = ⟨if p.out && p.key then i else m.key, if p.known && (p.tid == 0) then i else m.base, if p.out && decide (p.tid > 0) && p.sync then m.base else if p.out && p.key then i else m.sync⟩ := by
  unfold Mk.next
  rw [show (p.tid == 0) = decide (p.tid = 0) by rw [Bool.eq_iff_iff]; simp]
  cases p.out && p.key <;> cases p.out && decide (p.tid > 0) && p.sync <;> cases p.known && decide (p.tid = 0) <;> rfl
set_option maxHeartbeats 4000000 in
set_option maxRecDepth 100000 in
theorem decodes_yes (A : Option Addr) (cap at_ : Nat) (ps : List Pa) (x : Pa) (w : World) (hx : ps[at_]? = some x) (hP : Pasts w A ps) (hg : Good ps at_) : Calls Try.prog 10 #[.slice A ps.length cap, .int .i64 at_] w fun e w' => e = .returned (.bool true) ∧ Below w.heap.size w w' := by
  have hG := hg x hx
  obtain ⟨ad, rfl, ⟨e0, e1, e2, e3, e4, e5, e6, e7, e8⟩, tx3, tx0⟩ := past_cells hP hx
  have hlt := get_lt hx
  have hl := hP.1
  have HP := Lib.hid hP
  have HG := Lib.hid hG
  have hkk : (at_ : Int) < ps.length := by omega
  have kk0 : (0 : Int) ≤ (at_ : Int) := by omega
  clear hP hG hg hx
  go_enter Try.func10, Try.ntmps10
  go_wp2_with fail
  have hx0 : Blk (w.alloc (.cells x.arr 27)) w.heap.size 27 x.arr := Blk.new w 27 _
  have hb0 : Below w.heap.size w (w.alloc (.cells x.arr 27)) := (Below.refl _ w).alloc (Nat.le_refl _) _
  have HX0 := Lib.hid hx0
  have HB0 := Lib.hid hb0
  clear hx0 hb0 e0 e1 e2 e3 e4 e5 e6 e7 e8
  simp only [Pa.arr] at HX0 HB0
  go_loopw [6, 7, 8, 9] (fun v6 v7 v8 v9 wr => ∃ (n : Nat) (m : Mk), n ≤ at_ ∧ marks ps n = m ∧ v9 = .int .i64 n ∧ v6 = .int .i64 m.key ∧ v7 = .int .i64 m.base ∧ v8 = .int .i64 m.sync ∧ Below w.heap.size w wr ∧ Blk wr w.heap.size 27 x.arr) (fun _ _ _ v9 _ => at_ - (intOf v9).toNat)
  case atStart => exact ⟨0, ⟨-1, -1, -1⟩, Nat.zero_le _, rfl, rfl, rfl, rfl, rfl, HB0.out, HX0.out⟩
  case round =>
    obtain ⟨n, ⟨K, B, S⟩, hn, hm, rfl, rfl, rfl, rfl, hb, hxb⟩ := hrel
    have HB := Lib.hid hb
    have HX := Lib.hid hxb
    clear hb hxb HB0 HX0
    by_cases hna : n < at_
    · obtain ⟨p, hp⟩ : ∃ p, ps[n]? = some p := ⟨_, List.getElem?_eq_getElem (by omega)⟩
      have hms := marks_succ ps n p hp
      rw [hm, mark_next] at hms
      have HMS := Lib.hid hms
      obtain ⟨ad', hq, ⟨e0, e1, e2, e3, e4, e5, e6, e7, e8⟩, -, tp0⟩ := past_cells (pasts_below HP.out (HB.out)) hp
      cases hq
      have hnn : (n : Int) < ps.length := by omega
      have nn0 : (0 : Int) ≤ (n : Int) := by omega
      have hna' : (n : Int) < (at_ : Int) := by omega
      have hsz := HX.out.lt
      clear hms hm hp
      obtain ⟨frame, known, key, tid, sync, drop, told, tl0, out⟩ := p
      simp only at e0 e1 e2 e3 e4 e5 e6 e7 e8 tp0
      go_wp2_with fail
      all_goals
        go_roundw
        case rel => exact ⟨n + 1, _, by omega, HMS.out, by simp, (by first | (simp [*]; done) | (simp [*]; omega)), (by first | (simp [*]; done) | (simp [*]; omega)), (by first | (simp [*]; done) | (simp [*]; omega)), HB.out.alloc HB.out.size _, HX.out.alloc _⟩
        case measure => simp [intOf]; omega
    · obtain rfl : n = at_ := by omega
      have hG := HG.out
      rw [hm] at hG
      obtain ⟨k0, hc0, hrest⟩ := hG
      simp only at k0 hc0 hrest
      obtain ⟨kn, rfl⟩ : ∃ kn : Nat, K = kn := ⟨K.toNat, by omega⟩
      have HC0 := Lib.hid hc0
      have HR := Lib.hid hrest
      clear hc0 hrest hm HG hna
      have kn0 : ¬ (kn : Int) < 0 := by omega
      go_wp2_with fail
      go_loopw [11] (fun v w2 => ∃ n2 : Nat, v = .int .i64 n2 ∧ kn ≤ n2 ∧ Below w.heap.size w w2 ∧ Blk w2 w.heap.size 27 x.arr) (fun v _ => n - (intOf v).toNat)
      case atStart => exact ⟨kn, rfl, Nat.le_refl _, HB.out, HX.out⟩
      case round =>
        rename_i w2
        obtain ⟨n2, rfl, hkn, hb, hxb⟩ := hrel
        have HB2 := Lib.hid hb
        have HX2 := Lib.hid hxb
        have hsz2 := hxb.lt
        clear hb hxb
        by_cases hna : n2 < n
        · obtain ⟨p, hp⟩ : ∃ p, ps[n2]? = some p := ⟨_, List.getElem?_eq_getElem (by omega)⟩
          obtain ⟨ad', hq, ⟨e0, e1, e2, e3, e4, e5, e6, e7, e8⟩, -, tp0⟩ := past_cells (pasts_below HP.out HB2.out) hp
          cases hq
          have hcn := Lib.hid (fun W => counts_no p 0 0 W (HC0.out n2 p (by omega) hna hp))
          have hnn : (n2 : Int) < ps.length := by omega
          have nn0 : (0 : Int) ≤ (n2 : Int) := by omega
          have hna' : (n2 : Int) < (n : Int) := by omega
          clear hp
          simp only [Pa.arr] at hcn
          go_wp2_with fail
          refine (hcn.out _).mono ?_
          rintro e w3 ⟨rfl, rfl⟩
          go_wp2_with fail
          go_roundw
          case rel => exact ⟨n2 + 1, by simp, by omega, HB2.out.alloc HB2.out.size _, HX2.out.alloc _⟩
          case measure => simp [intOf]; omega
        · obtain ⟨x0, x1, x2, x3, x4, x5, x6, x7, x8⟩ := parr_cells HX2.out
          by_cases hxt : x.tid = 0
          · rw [hxt] at x3
            clear hxt
            go_wp2_with fail
            go_ret
            exact ⟨rfl, HB2.out⟩
          · rcases HR.out with hz | ⟨b, pb, hB, hbn, hpb, hpo, hof, hls⟩
            · exact absurd hz hxt
            subst hB
            obtain ⟨ad', hq, ⟨f0, f1, f2, f3, f4, f5, f6, f7, f8⟩, -, -⟩ := past_cells (pasts_below HP.out HB2.out) hpb
            cases hq
            have hbl := get_lt hpb
            have hbb : (b : Int) < ps.length := by omega
            have bb0 : (0 : Int) ≤ (b : Int) := by omega
            have bn0 : decide ((b : Int) < 0) = false := decide_eq_false (by omega)
            have hxt' : ¬ x.tid = 0 := hxt
            rw [hpo] at f8
            have HLS := Lib.hid hls
            have HOF := Lib.hid hof
            clear hls hof hpb hpo hxt HR kn0
            go_upto_region 23 with fail
            go_cut [100] (fun s100 wx => s100 = .bool false ∧ Below w.heap.size w wx ∧ Blk wx w.heap.size 27 x.arr)
            case first =>
              obtain ⟨xt, hxt⟩ : ∃ u, x.told = u := ⟨_, rfl⟩
              obtain ⟨bt, hbt⟩ : ∃ u, pb.told = u := ⟨_, rfl⟩
              rw [hxt] at x6
              rw [hbt] at f6
              have hof := HOF.out
              rw [hxt, hbt] at hof
              have HOF' := Lib.hid hof
              clear hxt hbt HOF hof
              cases xt
              · go_quiet (fail)
                go_wp2_with fail
                go_meet
                case rel => exact ⟨rfl, below_drewN HB2.out _, HX2.out.drewN _⟩
              · cases bt
                · go_quiet (fail)
                  go_wp2_with fail
                  go_meet
                  case rel => exact ⟨rfl, below_drewN HB2.out _, HX2.out.drewN _⟩
                · have he : x.tl0 = pb.tl0 := by
                    rcases Int.lt_trichotomy x.tl0 pb.tl0 with h | h | h
                    · exact absurd ⟨rfl, rfl, by omega⟩ HOF'.out
                    · exact h
                    · exact absurd ⟨rfl, rfl, by omega⟩ HOF'.out
                  rw [he] at x7
                  clear he HOF'
                  go_quiet (fail)
                  go_wp2_with fail
                  go_meet
                  case rel => exact ⟨rfl, below_drewN HB2.out _, HX2.out.drewN _⟩
            case rest =>
              obtain ⟨rfl, hb4, hx4⟩ := hcut
              have HB4 := Lib.hid hb4
              have HX4 := Lib.hid hx4
              clear hb4 hx4 HB2 HX2 f0 f1 f2 f3 f4 f5 f6 f7 f8 x0 x1 x2 x3 x4 x5 x6 x7 x8 HOF
              obtain ⟨q, hq, hq1⟩ : ∃ q : Nat, max S (kn : Int) = q ∧ (S < (kn : Int) ∧ (q : Int) = kn ∨ (kn : Int) ≤ S ∧ S = q) := ⟨(max S (kn : Int)).toNat, by omega, by omega⟩
              rw [hq] at HLS
              clear hq
              rcases hq1 with ⟨hle, hqk⟩ | ⟨hlt', rfl⟩
              · obtain rfl : q = kn := by omega
                clear hqk
                go_wp2_with fail
                go_loopw [12] (fun v w5 => ∃ n3 : Nat, v = .int .i64 n3 ∧ q ≤ n3 ∧ Below w.heap.size w w5 ∧ Blk w5 w.heap.size 27 x.arr) (fun v _ => n - (intOf v).toNat)
                case atStart => exact ⟨q, rfl, Nat.le_refl _, HB4.out, HX4.out⟩
                case round =>
                  rename_i w5
                  obtain ⟨n3, rfl, hqn, hb, hxb⟩ := hrel
                  have HB5 := Lib.hid hb
                  have HX5 := Lib.hid hxb
                  have hsz5 := hxb.lt
                  obtain ⟨x0, x1, x2, x3, x4, x5, x6, x7, x8⟩ := parr_cells hxb
                  clear hb hxb
                  by_cases hna : n3 < n
                  · cases hxs : x.sync
                    · obtain ⟨p, hp⟩ : ∃ p, ps[n3]? = some p := ⟨_, List.getElem?_eq_getElem (by omega)⟩
                      have hcn : p.counts 1 x.tid = false := by
                        rcases HLS.out with h | h
                        · rw [hxs] at h; cases h
                        · exact h n3 p (by omega) hna hp
                      rw [hxs] at x4
                      obtain ⟨ad', hq', ⟨e0, e1, e2, e3, e4, e5, e6, e7, e8⟩, -, tp0⟩ := past_cells (pasts_below HP.out HB5.out) hp
                      cases hq'
                      have HCN := Lib.hid (fun W => counts_no p 1 x.tid W hcn)
                      have hnn : (n3 : Int) < ps.length := by omega
                      have nn0 : (0 : Int) ≤ (n3 : Int) := by omega
                      have hna' : (n3 : Int) < (n : Int) := by omega
                      clear hp hcn hxs
                      simp only [Pa.arr] at HCN
                      go_wp2_with fail
                      go_region_held3 (fun w' => w'.cell? ⟨w.heap.size, 3, none⟩ = some (.int .i64 x.tid) ∧ w'.cell? (ad.add (n3 * 9)) = some (.bool p.frame) ∧ w'.cell? ⟨(ad.add (n3 * 9)).block, (ad.add (n3 * 9)).off + 1, none⟩ = some (.bool p.known) ∧ w'.cell? ⟨(ad.add (n3 * 9)).block, (ad.add (n3 * 9)).off + 2, none⟩ = some (.bool p.key) ∧ w'.cell? ⟨(ad.add (n3 * 9)).block, (ad.add (n3 * 9)).off + 3, none⟩ = some (.int .i64 p.tid) ∧ w'.cell? ⟨(ad.add (n3 * 9)).block, (ad.add (n3 * 9)).off + 4, none⟩ = some (.bool p.sync) ∧ w'.cell? ⟨(ad.add (n3 * 9)).block, (ad.add (n3 * 9)).off + 5, none⟩ = some (.bool p.drop) ∧ w'.cell? ⟨(ad.add (n3 * 9)).block, (ad.add (n3 * 9)).off + 6, none⟩ = some (.bool p.told) ∧ w'.cell? ⟨(ad.add (n3 * 9)).block, (ad.add (n3 * 9)).off + 7, none⟩ = some (.int .u8 p.tl0) ∧ w'.cell? ⟨(ad.add (n3 * 9)).block, (ad.add (n3 * 9)).off + 8, none⟩ = some (.bool p.out)) (go_keep)
                        (first
                          | (go_at_call 26; refine (HCN.out _).mono ?_; rintro e w6 ⟨rfl, rfl⟩))
                      go_wp2_with fail
                      go_roundw
                      case rel => exact ⟨n3 + 1, by simp, by omega, (HB5.out.drew.alloc HB5.out.size _), (HX5.out.drew.alloc _)⟩
                      case measure => simp [intOf]; omega
                    · rw [hxs] at x4
                      have hna' : (n3 : Int) < (n : Int) := by omega
                      clear hxs
                      go_wp2_with fail
                      go_ret
                      exact ⟨rfl, HB5.out⟩
                  · have hna' : ¬ (n3 : Int) < (n : Int) := by omega
                    go_wp2_with fail
                    go_ret
                    exact ⟨rfl, HB5.out⟩
              · have hle' : ¬ (q : Int) < (kn : Int) := by omega
                go_wp2_with fail
                go_loopw [12] (fun v w5 => ∃ n3 : Nat, v = .int .i64 n3 ∧ q ≤ n3 ∧ Below w.heap.size w w5 ∧ Blk w5 w.heap.size 27 x.arr) (fun v _ => n - (intOf v).toNat)
                case atStart => exact ⟨q, rfl, Nat.le_refl _, HB4.out, HX4.out⟩
                case round =>
                  rename_i w5
                  obtain ⟨n3, rfl, hqn, hb, hxb⟩ := hrel
                  have HB5 := Lib.hid hb
                  have HX5 := Lib.hid hxb
                  have hsz5 := hxb.lt
                  obtain ⟨x0, x1, x2, x3, x4, x5, x6, x7, x8⟩ := parr_cells hxb
                  clear hb hxb
                  by_cases hna : n3 < n
                  · cases hxs : x.sync
                    · obtain ⟨p, hp⟩ : ∃ p, ps[n3]? = some p := ⟨_, List.getElem?_eq_getElem (by omega)⟩
                      have hcn : p.counts 1 x.tid = false := by
                        rcases HLS.out with h | h
                        · rw [hxs] at h; cases h
                        · exact h n3 p (by omega) hna hp
                      rw [hxs] at x4
                      obtain ⟨ad', hq', ⟨e0, e1, e2, e3, e4, e5, e6, e7, e8⟩, -, tp0⟩ := past_cells (pasts_below HP.out HB5.out) hp
                      cases hq'
                      have HCN := Lib.hid (fun W => counts_no p 1 x.tid W hcn)
                      have hnn : (n3 : Int) < ps.length := by omega
                      have nn0 : (0 : Int) ≤ (n3 : Int) := by omega
                      have hna' : (n3 : Int) < (n : Int) := by omega
                      clear hp hcn hxs
                      simp only [Pa.arr] at HCN
                      go_wp2_with fail
                      go_region_held3 (fun w' => w'.cell? ⟨w.heap.size, 3, none⟩ = some (.int .i64 x.tid) ∧ w'.cell? (ad.add (n3 * 9)) = some (.bool p.frame) ∧ w'.cell? ⟨(ad.add (n3 * 9)).block, (ad.add (n3 * 9)).off + 1, none⟩ = some (.bool p.known) ∧ w'.cell? ⟨(ad.add (n3 * 9)).block, (ad.add (n3 * 9)).off + 2, none⟩ = some (.bool p.key) ∧ w'.cell? ⟨(ad.add (n3 * 9)).block, (ad.add (n3 * 9)).off + 3, none⟩ = some (.int .i64 p.tid) ∧ w'.cell? ⟨(ad.add (n3 * 9)).block, (ad.add (n3 * 9)).off + 4, none⟩ = some (.bool p.sync) ∧ w'.cell? ⟨(ad.add (n3 * 9)).block, (ad.add (n3 * 9)).off + 5, none⟩ = some (.bool p.drop) ∧ w'.cell? ⟨(ad.add (n3 * 9)).block, (ad.add (n3 * 9)).off + 6, none⟩ = some (.bool p.told) ∧ w'.cell? ⟨(ad.add (n3 * 9)).block, (ad.add (n3 * 9)).off + 7, none⟩ = some (.int .u8 p.tl0) ∧ w'.cell? ⟨(ad.add (n3 * 9)).block, (ad.add (n3 * 9)).off + 8, none⟩ = some (.bool p.out)) (go_keep)
                        (first
                          | (go_at_call 26; refine (HCN.out _).mono ?_; rintro e w6 ⟨rfl, rfl⟩))
                      go_wp2_with fail
                      go_roundw
                      case rel => exact ⟨n3 + 1, by simp, by omega, (HB5.out.drew.alloc HB5.out.size _), (HX5.out.drew.alloc _)⟩
                      case measure => simp [intOf]; omega
                    · rw [hxs] at x4
                      have hna' : (n3 : Int) < (n : Int) := by omega
                      clear hxs
                      go_wp2_with fail
                      go_ret
                      exact ⟨rfl, HB5.out⟩
                  · have hna' : ¬ (n3 : Int) < (n : Int) := by omega
                    go_wp2_with fail
                    go_ret
                    exact ⟨rfl, HB5.out⟩
end Go.Proofs.Ytnodnngakopooaa
