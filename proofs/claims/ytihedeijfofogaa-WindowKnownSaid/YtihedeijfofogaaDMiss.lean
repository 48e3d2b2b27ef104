/- The numbers that did not come: the iterator and the row made of it, each by a contract. Conditions: numbers of their kinds. -/
import Derived.Test.YtihedeijfofogaaCIn
import Derived.RangeFuncNested
import Derived.RangeFuncBound
import Derived.RangeFuncCalls
import Derived.RangeFuncLeaves
import Derived.RangeFuncBox
import Derived.Maps.AppendAt
import Derived.Shelf.Abstract
import Derived.Shelf.RegionOpen
import Derived.OwnWalkIn
import Derived.TacticsInMore
import Derived.LoopNIn
import Derived.LoopIn
import Derived.Sort.BigQuietIn
namespace Go.Proofs.Ytihedeijfofogaa
open Go.RowKit Go.Shelf
attribute [local go_sem] Oper.semAt_some
attribute [local simp] Fence.wide

/-- The numbers from lo up to k whose digits are not set. -/
def news (c : Nat → Nat) (lo k : Int) : List Int := ((List.range (k - lo).toNat).map fun i => lo + (i : Nat)).filter fun m => !S c m
theorem news_zero (c : Nat → Nat) (lo : Int) : news c lo lo = [] := by simp [news]
theorem news_hit (c : Nat → Nat) (lo k : Int) (h : lo ≤ k) (hs : S c k = false) : news c lo (k + 1) = news c lo k ++ [k] := by
  unfold news
  rw [show (k + 1 - lo).toNat = (k - lo).toNat + 1 by omega, List.range_succ, List.map_append, List.filter_append]
  congr 1
  simp only [List.map_cons, List.map_nil]
  rw [show lo + ((k - lo).toNat : Nat) = k by omega]
  simp [hs]
theorem news_miss (c : Nat → Nat) (lo k : Int) (h : lo ≤ k) (hs : S c k = true) : news c lo (k + 1) = news c lo k := by
  unfold news
  rw [show (k + 1 - lo).toNat = (k - lo).toNat + 1 by omega, List.range_succ, List.map_append, List.filter_append]
  simp only [List.map_cons, List.map_nil]
  rw [show lo + ((k - lo).toNat : Nat) = k by omega]
  simp [hs]
theorem news_len (c : Nat → Nat) (lo k : Int) : (news c lo k).length ≤ (k - lo).toNat := by
  unfold news
  refine Nat.le_trans (List.length_filter_le _ _) ?_
  simp
/-- All that a window says did not come. -/
def mi (sz top lst : Int) (any : Bool) (c : Nat → Nat) : List Int := if any then news c (max (bot sz top) lst) top else []

theorem quiet_drawn {P : Program} {f : FuncId} {args : Array Value} {w : World} {n : Nat} {v : Value}
    (h : Calls P f args (w.drewN n) fun e w' => e = .returned v ∧ ∃ k, w' = (w.drewN n).drewN k) : Calls P f args (w.drewN n) fun e w'' => e = .returned v ∧ ∃ m, w'' = w.drewN m :=
  h.mono fun _ _ ⟨he, k, hk⟩ => ⟨he, n + k, by rw [hk, World.drewN_drewN]⟩

set_option maxRecDepth 100000 in
set_option maxHeartbeats 2000000 in
theorem missing1_some (n : Nat) (hn : 1 ≤ n) (l Bn b : Nat) (Kp : World → World → Prop) (sz top lst : Int) (c : Nat → Nat) (k0 k1 k2 : Int) (s0 : 1 ≤ sz) (s1 : sz ≤ 1024) (t0 : 0 ≤ top) (t1 : top ≤ 18446744073709551615) (l0 : 0 ≤ lst) (l1 : lst ≤ top) (hc : ∀ i, c i < 18446744073709551616) (hKp : ∀ A B, Kp A B → (Blk A b 53 (wc sz top lst true c k0 k1 k2) → Blk B b 53 (wc sz top lst true c k0 k1 k2)) ∧ (Boxed A Bn 26 (.pointer (some ⟨b, 0, none⟩)) → Boxed B Bn 26 (.pointer (some ⟨b, 0, none⟩))))
    (J Jx : List Int → World → Prop) (W : World)
    (hJ : AbidesFrom W.heap.size J)
    (hY : ∀ pre x W, J pre W → pre.length < 1024 → YieldAt Fence.wide (n - 1) Try.prog l #[.int .u64 x] W fun e W' =>
      (e = .returned (.bool true) ∧ J (pre ++ [x]) W' ∧ Kp W W') ∨ (e = .returned (.bool false) ∧ Jx (pre ++ [x]) W'))
    (hbx : Boxed W Bn 26 (.pointer (some ⟨b, 0, none⟩))) (hx : Blk W b 53 (wc sz top lst true c k0 k1 k2)) (h0 : J [] W) :
    CallsIn Fence.wide n Try.prog 28 #[.func (.yield l) #[] #[], .pointer (some ⟨Bn, 0, none⟩)] W fun e W' => (∃ v, e = .returned v) ∧
      ((∃ ys, ys = mi sz top lst true c ∧ J ys W') ∨ (∃ pre, True ∧ Jx pre W')) := by
  have hbt : bot sz top ≤ top ∧ 0 ≤ bot sz top ∧ top - bot sz top ≤ 1023 := by unfold bot; split <;> omega
  have HB24 := fun W hW => bottom_any b sz top lst true c k0 k1 k2 W s0 s1 t0 t1 hW
  have HB12 := fun m W m0 m1 hW => look_any b sz top lst true c k0 k1 k2 m W s0 s1 t0 t1 m0 m1 hc hW
  have hlk : ∀ m, bot sz top ≤ m → m ≤ top → lk sz top true c m = if S c m then 1 else 0 := fun m a b => by unfold lk; rw [if_neg (by simp; omega), if_neg (by omega)]
  generalize hq : bot sz top = q at hbt HB24 hlk
  have hmi : mi sz top lst true c = news c (max q lst) top := by unfold mi; rw [if_pos rfl, hq]
  rw [hmi]
  clear hmi
  have hBn := hbx.cell
  have c17 : W.cell? ⟨b, 17, none⟩ = some (.int .u64 top) := Blk.cell hx 17
  have c18 : W.cell? ⟨b, 18, none⟩ = some (.int .u64 lst) := Blk.cell hx 18
  have c19 : W.cell? ⟨b, 19, none⟩ = some (.bool true) := Blk.cell hx 19
  refine callsIn_of_wp Try.func28 rfl trivial ?_ rfl
  simp only [Try.ntmps28, List.size_toArray, List.length_cons, List.length_nil, Nat.reduceAdd, Nat.reduceSub, Array.replicate_succ, Array.replicate_zero, List.push_toArray, List.append_toArray, List.nil_append, List.cons_append]
  obtain ⟨lo, hlo, hl⟩ : ∃ lo : Int, max q lst = lo ∧ (lst ≤ q ∧ lo = q ∨ q < lst ∧ lo = lst) := ⟨_, rfl, by omega⟩
  rw [hlo]
  clear hlo
  have hlt : lo ≤ top ∧ q ≤ lo ∧ 0 ≤ lo := by omega
  gi_wp2
  rcases hl with ⟨hl, hl'⟩ | ⟨hl, hl'⟩
  all_goals (
    gi_big_quiet_th (first | (gi_at_call 24; exact callsIn_wide.2 (quiet_drawn (HB24 _ (hx.drewN _)))))
    gi_wp2
    obtain ⟨W1, hW1⟩ : ∃ W1, W.drewN nq = W1 := ⟨_, rfl⟩
    rw [hW1]
    have j1 : J [] W1 := by rw [← hW1]; exact hJ [] W _ none h0 (only_drewN (World.grownBy.refl W _) nq) (fun _ e => by cases e)
    have x1 : Blk W1 b 53 (wc sz top lst true c k0 k1 k2) := by rw [← hW1]; exact hx.drewN nq
    have b1 : Boxed W1 Bn 26 (.pointer (some ⟨b, 0, none⟩)) := by rw [← hW1]; exact hbx
    clear hW1 h0 hx hBn hbx c17 c18 c19 HB24 hq
    gi_loopw [3] (fun v wr => ∃ k : Int, lo ≤ k ∧ k ≤ top ∧ v = .int .u64 k ∧ J (news c lo k) wr ∧ Blk wr b 53 (wc sz top lst true c k0 k1 k2) ∧ Boxed wr Bn 26 (.pointer (some ⟨b, 0, none⟩))) (fun v _ => (top - intOf v).toNat)
    case atStart => exact ⟨lo, Int.le_refl _, hlt.1, by rw [hl'], by rw [news_zero]; exact j1, x1, b1⟩
    case round =>
      obtain ⟨k, g0, g1, rfl, hjk, x2, b2'⟩ := hrel
      have b2 := b2'.cell
      have c17 : wr.cell? ⟨b, 17, none⟩ = some (.int .u64 top) := Blk.cell x2 17
      by_cases hk : k = top
      · subst hk
        gi_wp2
        go_end0
        exact ⟨⟨_, rfl⟩, .inl ⟨_, rfl, hjk⟩⟩
      have hk' : k < top := by omega
      have hlen : (news c lo k).length < 1024 := by have := news_len c lo k; omega
      have k0' : 0 ≤ k := by omega
      have kb : k + 1 ≤ 18446744073709551615 := by omega
      have HK := fun W hW => HB12 k W k0' (by omega) hW
      rw [hlk k (by omega) g1] at HK
      have hdr : ∀ j, J (news c lo k) (wr.drewN j) := fun j => hJ _ wr _ none hjk (only_drewN (World.grownBy.refl wr _) j) (fun _ e => by cases e)
      have hY' := fun j => hY _ k (wr.drewN j) (hdr j) hlen
      clear HB12 hlk hY
      cases hs : S c k
      · rw [hs, if_neg (by simp)] at HK
        gi_wp2_with (gi_at_call 12; refine (callsIn_wide.2 (HK _ x2)).mono ?_; rintro e w' ⟨rfl, j, rfl⟩; clear HK; obtain ⟨fn, tmps, assign, body, hy, hR⟩ := hY' j)
        refine hR.mono ?_
        rintro e W3 (⟨rfl, hJ3, hk3⟩ | ⟨rfl, hJx3⟩)
        · gi_wp2
          go_roundw
          case rel => exact ⟨k + 1, by omega, by omega, rfl, by rw [news_hit c lo k g0 hs]; exact hJ3, (hKp _ _ hk3).1 (x2.drewN j), (hKp _ _ hk3).2 b2'⟩
          case measure => simp [intOf]; omega
        · gi_wp2
          refine bodyPost_ret (results_none rfl _ _ _) rfl ?_
          exact ⟨⟨_, rfl⟩, .inr ⟨_, trivial, hJx3⟩⟩
      · rw [hs, if_pos rfl] at HK
        gi_wp2_with (gi_at_call 12; refine (callsIn_wide.2 (HK _ x2)).mono ?_; rintro e w' ⟨rfl, j, rfl⟩; clear HK)
        have hdj := hdr j
        go_roundw
        case rel => exact ⟨k + 1, by omega, by omega, rfl, by rw [news_miss c lo k g0 hs]; exact hdj, x2.drewN j, b2'⟩
        case measure => simp [intOf]; omega)

set_option maxRecDepth 100000 in
set_option maxHeartbeats 2000000 in
theorem missing1_none (n : Nat) (l Bn : Nat) (J : List Int → World → Prop) (W : World) (hBn : W.cell? ⟨Bn, 0, none⟩ = some (.pointer none)) (h0 : J [] W) :
    CallsIn Fence.wide n Try.prog 28 #[.func (.yield l) #[] #[], .pointer (some ⟨Bn, 0, none⟩)] W fun e W' => (∃ v, e = .returned v) ∧ J [] W' := by
  refine callsIn_of_wp Try.func28 rfl trivial ?_ rfl
  simp only [Try.ntmps28, List.size_toArray, List.length_cons, List.length_nil, Nat.reduceAdd, Nat.reduceSub, Array.replicate_succ, Array.replicate_zero, List.push_toArray, List.append_toArray, List.nil_append, List.cons_append]
  gi_wp2
  refine bodyPost_ret (results_none rfl _ _ _) rfl ?_
  exact ⟨⟨_, rfl⟩, h0⟩

set_option maxRecDepth 100000 in
set_option maxHeartbeats 2000000 in
theorem missing1_no (n : Nat) (l Bn b : Nat) (sz top lst : Int) (c : Nat → Nat) (k0 k1 k2 : Int) (J : List Int → World → Prop) (W : World) (hBn : W.cell? ⟨Bn, 0, none⟩ = some (.pointer (some ⟨b, 0, none⟩))) (hx : Blk W b 53 (wc sz top lst false c k0 k1 k2)) (h0 : J [] W) :
    CallsIn Fence.wide n Try.prog 28 #[.func (.yield l) #[] #[], .pointer (some ⟨Bn, 0, none⟩)] W fun e W' => (∃ v, e = .returned v) ∧ J [] W' := by
  have c19 : W.cell? ⟨b, 19, none⟩ = some (.bool false) := Blk.cell hx 19
  refine callsIn_of_wp Try.func28 rfl trivial ?_ rfl
  simp only [Try.ntmps28, List.size_toArray, List.length_cons, List.length_nil, Nat.reduceAdd, Nat.reduceSub, Array.replicate_succ, Array.replicate_zero, List.push_toArray, List.append_toArray, List.nil_append, List.cons_append]
  gi_wp2
  refine bodyPost_ret (results_none rfl _ _ _) rfl ?_
  exact ⟨⟨_, rfl⟩, h0⟩

set_option maxHeartbeats 1000000 in
/-- The iterator is made: the receiver is boxed; the function value captures the box. -/
theorem missing_in (n : Nat) (p0 : Option Addr) (w : World) :
    CallsIn Fence.wide n Try.prog 25 #[.pointer p0] w fun e w' => e = .returned (.func (.func 28) #[] #[.pointer (some ⟨w.heap.size, 0, none⟩)]) ∧ w' = w.alloc (.cells #[.pointer p0] 26) := by
  refine callsIn_of_wp Try.func25 rfl trivial ?_ rfl
  simp only [Try.ntmps25, List.size_toArray, List.length_cons, List.length_nil, Nat.reduceAdd, Nat.reduceSub, Array.replicate_succ, Array.replicate_zero, List.push_toArray, List.append_toArray, List.nil_append, List.cons_append]
  gi_wp2
  go_ret
  exact ⟨rfl, rfl⟩

theorem info23 : (Try.prog.info? 23).map (fun i => (i.zero, i.size, i.bytes)) = some (some (.int .u64 0), 1, 8) := by kernel_rfl
/-- What a round of the caller keeps: what lay below n₀, and the box Bn. -/
def Kpb (n₀ Bn : Nat) (A B : World) : Prop := Below n₀ A B ∧ ∀ v, Boxed A Bn 26 v → Boxed B Bn 26 v
theorem kpb_t {n₀ Bn : Nat} {A B C : World} (h : Kpb n₀ Bn A B) (k : Kpb n₀ Bn B C) : Kpb n₀ Bn A C := ⟨h.1.trans k.1, fun v hv => k.2 v (h.2 v hv)⟩

set_option maxRecDepth 100000 in
set_option maxHeartbeats 2000000 in
theorem missing_row (p : Option Addr) (ms : List Int) (w : World) (hms : ms.length ≤ 1024)
    (hseq : ∀ W, Below w.heap.size w W → w.heap.size + 1 < W.heap.size → Boxed W (w.heap.size + 1) 26 (.pointer p) →
      SeqStopsK Fence.wide 2 Try.prog 28 #[.pointer (some ⟨w.heap.size + 1, 0, none⟩)] (fun x : Int => #[Value.int .u64 x]) (Kpb w.heap.size (w.heap.size + 1)) (fun ys => ys = ms) (fun _ => True) 1024 W) :
    Calls Try.prog 13 #[.pointer p] w fun e W' => ∃ v, e = .returned v ∧ W'.ownsRow w.heap.size 23 1 v ms.length (ms.map (Value.int .u64)) ∧ (v = .slice none 0 0 ↔ ms = []) ∧ Below w.heap.size w W' := by
  refine (callsIn_wide (n := 3)).1 ?_
  obtain ⟨i0, hi, hz0, hz1, hz2⟩ := info_parts info23
  refine callsIn_of_wp_marks Try.func13 rfl trivial ?_ rfl
  simp only [Try.ntmps13, List.size_toArray, List.length_cons, List.length_nil, Nat.reduceAdd, Nat.reduceSub, Array.replicate_succ, Array.replicate_zero, List.push_toArray, List.append_toArray, List.nil_append, List.cons_append]
  gi_wp2_with (gi_at_call 25; refine (missing_in _ _ _).mono ?_; rintro e w' ⟨rfl, rfl⟩)
  have bO := Boxed.new w 22 (.slice none 0 0)
  have bN := Boxed.new (w.alloc (.cells #[.slice none 0 0] 22)) 26 (.pointer p)
  rw [World.size_alloc] at bN
  have hB0 : Below w.heap.size w ((w.alloc (.cells #[.slice none 0 0] 22)).alloc (.cells #[.pointer p] 26)) := ((Below.refl _ w).alloc (Nat.le_refl _) _).alloc (by simp) _
  refine wpIn_rangeFunc_ownG rfl (by omega) (gf := 28) (lb := #[.pointer (some ⟨w.heap.size + 1, 0, none⟩)]) rfl trivial (enters_of Try.func28 (by kernel_rfl) rfl)
    (hseq _ hB0 (by simp) bN) kpb_t (fun W l o o' hl ho hc hw => ⟨belowK_b (w := w) (Nat.le_refl _) W l o o' (by simp at hl; omega) ho hc hw, fun v hv => hv.kept (grownBy_putObj' W l o') (fun e => by cases e; rw [show W.heap[w.heap.size + 1]? = _ from hv] at ho; cases ho; cases hc)⟩) (Below.refl _ _) (fun _ => rfl)
    (fun pre W => (∃ v, Boxed W w.heap.size 22 v ∧ W.ownsRow w.heap.size 23 1 v pre.length (pre.map (Value.int .u64)) ∧ (v = .slice none 0 0 ↔ pre = [])) ∧ Below w.heap.size w W)
    (fun _ _ _ => False)
    (OwnFrom.and (Own.from (holdsRow_own w.heap.size w.heap.size 22 23 1 (fun pre => pre.length) (fun pre => pre.map (Value.int .u64)) (fun pre v => v = .slice none 0 0 ↔ pre = [])) _) (ownFrom_below (Nat.le_refl _) (by simp; omega)))
    (fun _ _ _ _ _ hs _ _ => hs)
    ⟨⟨_, bO.alloc _, World.ownsRow_nil _ _ _ _, by simp⟩, hB0⟩
    (fun x => { tmps := #[.pointer p, undef, .pointer (some ⟨w.heap.size, 0, none⟩), .int .u64 x, .pointer p, .func (.func 28) #[] #[.pointer (some ⟨w.heap.size + 1, 0, none⟩)], .int .u64 x, undef, undef, undef, undef, undef], defers := [] }) ?assign ?body ?done ?stop
  case assign =>
    intro l x W K hK
    gi_wp2
    exact hK
  case body =>
    rintro l pre x W ⟨⟨v, hv, hrow, hnil⟩, hB⟩ hlt
    have hc := hv.cell
    gi_wp2_with (gi_at_builtin; refine wpListIn_append_own _ rfl _ _ 22 rfl w.heap.size 23 i0 (.int .u64 0) 1 8 Try.underlying22 hi hz0 hz1 hz2 rfl (by decide) _ _ _ rfl (hrow.alloc _) ⟨W.heap.size, 0, none⟩ 1 1 [.int .u64 x] rfl rfl (cell_one_new _ _ _) (by simp [Value.oneCell']) (by simp [maxLen]; omega) (by omega) (by have := hB.size; simp; omega) ?_; intro v' w1 hown' hgrow _; obtain ⟨g', cap', rfl⟩ := ownsRow_succ hown'; obtain ⟨hv1, hv2, hr2, hk2, hb2⟩ := hv.appended (by decide) hrow hB.size (Nat.le_refl _) hown' hgrow; have hc1 := hv1.cell; have hf1 := hv1.frozen; have hrow' := hrow)
    refine ⟨hk2.from _, ⟨hb2, fun u hu => ?_⟩, ⟨_, hv2, by simpa using hr2, by simp⟩, hB.trans hb2⟩
    have hu1 := (hu.alloc (.cells #[.int .u64 x] 23)).kept hgrow (hu.not_row (by decide) hrow)
    exact hu1.other (by omega) _
  case done =>
    rintro D ys W hD rfl ⟨⟨v, hv, hrow, hnil⟩, hB⟩ hK
    obtain ⟨a, len, cap, rfl⟩ : ∃ a len cap, v = .slice a len cap := by
      rcases hrow.2 with ⟨rfl, _⟩ | ⟨g, cap, cur, rfl, _⟩ <;> exact ⟨_, _, _, rfl⟩
    have hc := hv.cell
    have hf := hv.frozen
    gi_wp2
    have hv1 := hv.set (.slice a len cap)
    have hr1 := hrow.kept (grownBy_setCell' W w.heap.size (.slice a len cap)) (.inr (hv.not_row (by decide) hrow).symm)
    have hK1 := (KeepsOthers.setCell W ⟨w.heap.size, 0, none⟩ (.slice a len cap)).same D _ hK rfl
    have hB1 := hB.setCell (p := ⟨w.heap.size, 0, none⟩) (Nat.le_refl _) (.slice a len cap)
    generalize W.setCell ⟨w.heap.size, 0, none⟩ (.slice a len cap) = W1 at hv1 hr1 hK1 hB1 ⊢
    refine ⟨by simp, .inl ⟨_, _, rfl, run_takeDeferred hK1, ?_⟩⟩
    have hc2 := cell_kept hv1.cell (grownBy_putObj' W1 D (.deferred none)) (fun r e => by cases e; exact ⟨_, hK1, rfl⟩)
    exact ⟨.slice a len cap, by simp [results, Try.results13, go_sem, hc2], _, rfl, ownsRow_putObj hr1 _ hK1 rfl, hnil, hB1.trans (belowK_b (w := w) (Nat.le_refl _) W1 D _ _ (by simp at hD; omega) hK1 rfl rfl)⟩
  case stop =>
    rintro D c pre W _ _ h _
    exact h.elim
end Go.Proofs.Ytihedeijfofogaa
