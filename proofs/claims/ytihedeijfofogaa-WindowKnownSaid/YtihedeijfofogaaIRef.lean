/- The reference's Missing, by a contract. Conditions: numbers of their kinds. -/
import Derived.Test.YtihedeijfofogaaHRef
namespace Go.Proofs.Ytihedeijfofogaa
open Go.RowKit Go.Shelf

theorem gap_zero (l : List Int) (lo : Int) : gap l lo lo = [] := by simp [gap]
theorem gap_hit (l : List Int) (lo k : Int) (h : lo ≤ k) (hs : k ∉ l) : gap l lo (k + 1) = gap l lo k ++ [k] := by
  unfold gap
  rw [show (k + 1 - lo).toNat = (k - lo).toNat + 1 by omega, List.range_succ, List.map_append, List.filter_append]
  congr 1
  simp only [List.map_cons, List.map_nil]
  rw [show lo + ((k - lo).toNat : Nat) = k by omega]
  simp [hs]
theorem gap_miss (l : List Int) (lo k : Int) (h : lo ≤ k) (hs : k ∈ l) : gap l lo (k + 1) = gap l lo k := by
  unfold gap
  rw [show (k + 1 - lo).toNat = (k - lo).toNat + 1 by omega, List.range_succ, List.map_append, List.filter_append]
  simp only [List.map_cons, List.map_nil]
  rw [show lo + ((k - lo).toNat : Nat) = k by omega]
  simp [hs]
theorem gap_len (l : List Int) (lo k : Int) : (gap l lo k).length ≤ (k - lo).toNat := by
  unfold gap
  refine Nat.le_trans (List.length_filter_le _ _) ?_
  simp
theorem least_more {l : List Int} {k : Nat} {u a : Int} (h : l[k]? = some u) : (l.take (k + 1)).foldl min a = min ((l.take k).foldl min a) u := by
  rw [take_more h]; simp
theorem app_tail1 {w3 w' : World} {S n : Nat} {v : Value} {xs : List Value} {o : Obj} {cs : Array Value} (hX : Blk w3 S 39 cs) (hrow : w3.ownsRow (S + 1) 23 1 v n xs) (hg : (w3.alloc o).grownBy w' v.ownBlock) :
    Blk w' S 39 cs ∧ Below S w3 w' := by
  have hlt := hX.lt
  refine ⟨(hX.alloc o).grown hg (not_own hrow (by omega)), ?_⟩
  refine Below.grown ((Below.refl S w3).alloc (by omega) o) hg (by simp; omega) fun j e => ?_
  rcases hrow.2 with ⟨rfl, _⟩ | ⟨g, cap, cur, rfl, hb, _⟩
  · simp [Value.ownBlock] at e
  · simp only [Value.ownBlock, Option.some.injEq] at e; omega
theorem own_below {w : World} {base base' n : Nat} {v : Value} {xs : List Value} (h : w.ownsRow base 23 1 v n xs) (hb : base' ≤ base) : w.ownsRow base' 23 1 v n xs := by
  refine ⟨h.1, ?_⟩
  rcases h.2 with hn | ⟨g, cap, cur, e, hg, rest⟩
  · exact .inl hn
  · exact .inr ⟨g, cap, cur, e, by omega, rest⟩

set_option maxHeartbeats 2000000 in
theorem refmissing_any (sz : Int) (A : Option Addr) (cap : Nat) (l : List Int) (b : Nat) (w : World) (s0 : 1 ≤ sz) (s1 : sz ≤ 1024) (hR : Rs w b A cap l) :
    Calls Try.prog 19 #[.agg #[.int .i64 sz, .slice A l.length cap]] w fun e w' => ∃ v, e = .returned v ∧ w'.ownsRow w.heap.size 23 1 v (missL sz l).length ((missL sz l).map (Value.int .u64)) ∧ Below w.heap.size w w' := by
  obtain ⟨i0, hi, hz0, hz1, hz2⟩ := info_parts info23
  have hm : l.length ≤ 9223372036854775807 := hR.1.1
  have HT := fun W hW hB => reftop_any sz A cap l w.heap.size W hW hB
  have HM := fun W hW hB => refbottom_any sz A cap l w.heap.size W s0 s1 hW hB
  have HH := fun n W hW => has_any A cap l n w.heap.size W hW
  have hem : (!l.isEmpty) = decide (l ≠ []) := by cases l <;> simp
  rw [hem] at HT
  clear hem
  by_cases hl : l = []
  · have e : missL sz l = [] := by unfold missL; rw [if_pos hl]
    rw [e]
    rw [show decide (l ≠ []) = false by simp [hl]] at HT
    clear HM HH e hl
    go_enter Try.func19, Try.ntmps19
    go_wp2_with fail
    obtain ⟨w1, hw1⟩ : ∃ w1, w.alloc (.cells #[.int .i64 sz, .slice A l.length cap] 39) = w1 := ⟨_, rfl⟩
    obtain ⟨hx1, hb1, hz1'⟩ := box_facts hw1
    rw [hw1]
    clear hw1
    refine (HT w1 (hR.1.below hb1) (by omega)).mono ?_
    rintro e w2 ⟨rfl, hb2⟩
    have HB := Lib.hid (hb1.trans (hb2.mono (by omega)))
    clear hx1 hb1 hb2 HT hR
    go_wp2_with fail
    go_ret
    exact ⟨_, rfl, World.ownsRow_nil _ _ _ _, HB.out⟩
  rw [show decide (l ≠ []) = true by simp [hl]] at HT
  have hnums := nums_u64 hR.1
  have ht0 := topL_ge l
  have ht1 : topL l ≤ 18446744073709551615 := topL_le (by omega) fun x hx => (hnums x hx).2
  have hl0 : 0 ≤ lstL l := lstL_ge fun x hx => (hnums x hx).1
  have hlt := lstL_le_top l
  have hbt : bot sz (topL l) ≤ topL l ∧ 0 ≤ bot sz (topL l) ∧ topL l - bot sz (topL l) ≤ 1023 := by unfold bot; split <;> omega
  have hms : missL sz l = gap l (max (bot sz (topL l)) (lstL l)) (topL l) := by unfold missL; rw [if_neg hl]
  have hlst : lstL l = (l.take l.length).foldl min (topL l) := by rw [List.take_length]; rfl
  rw [hms]
  clear hms hnums
  generalize bot sz (topL l) = q at HM hbt ⊢
  generalize lstL l = lst at hl0 hlt hlst ⊢
  generalize topL l = t at HT ht0 ht1 hlt hbt hlst ⊢
  go_enter Try.func19, Try.ntmps19
  go_wp2_with fail
  obtain ⟨w1, hw1⟩ : ∃ w1, w.alloc (.cells #[.int .i64 sz, .slice A l.length cap] 39) = w1 := ⟨_, rfl⟩
  obtain ⟨hx1, hb1, hz1'⟩ := box_facts hw1
  rw [hw1]
  clear hw1
  refine (HT w1 (hR.1.below hb1) (by omega)).mono ?_
  rintro e w2 ⟨rfl, hb2⟩
  have hB := hb1.trans (hb2.mono (by omega))
  have hx2 := hx1.below hb2 (by omega)
  have hsz2 := hb2.size
  have hN2 := hR.1.below hB
  have c0 : w2.cell? ⟨w.heap.size, 0, none⟩ = some (.int .i64 sz) := Blk.cell hx2 0
  have c1 : w2.cell? ⟨w.heap.size, 1, none⟩ = some (.slice A l.length cap) := Blk.cell hx2 1
  have HB := Lib.hid hB
  have HX := Lib.hid hx2
  have HN := Lib.hid hN2
  clear hx1 hb1 hb2 HT hR hB hx2 hN2
  go_wp2_with fail
  go_loopw [6, 7] (fun x v wr => ∃ k : Nat, v = .int .i64 k ∧ x = .int .u64 ((l.take k).foldl min t) ∧ k ≤ l.length ∧ w2 = wr) (fun _ v _ => l.length - (intOf v).toNat)
  case atStart => exact ⟨0, rfl, by simp, Nat.zero_le _, rfl⟩
  case round =>
    obtain ⟨k, rfl, rfl, hk, rfl⟩ := hrel
    by_cases hkl : k < l.length
    · obtain ⟨ad, u, hA, -, hu, hw, hc⟩ := HN.out.at_ hkl
      subst hA
      have hkk : (k : Int) < l.length := by omega
      have k0 : (0 : Int) ≤ (k : Int) := by omega
      have ht := least_more (a := t) hu
      clear HM HH
      by_cases hmx : (l.take k).foldl min t ≤ u
      · go_wp2
        go_roundw
        case rel => exact ⟨k + 1, by simp, by rw [ht]; simp; omega, by omega, by trivial⟩
        case measure => simp [intOf]; omega
      · go_wp2
        go_roundw
        case rel => exact ⟨k + 1, by simp, by rw [ht]; simp; omega, by omega, by trivial⟩
        case measure => simp [intOf]; omega
    · obtain rfl : k = l.length := by omega
      rw [← hlst]
      clear hlst
      obtain ⟨lo, hlo, hl'⟩ : ∃ lo : Int, max q lst = lo ∧ (lst ≤ q ∧ lo = q ∨ q < lst ∧ lo = lst) := ⟨_, rfl, by omega⟩
      have hlot : lo ≤ t ∧ q ≤ lo ∧ 0 ≤ lo := by omega
      go_wp2_with fail
      refine (HM w2 HN.out (by omega)).mono ?_
      rintro e w3 ⟨rfl, hb3⟩
      have hsz3 := hb3.size
      have HX3 := Lib.hid (HX.out.below hb3 (by omega))
      have HN3 := Lib.hid (HN.out.below (hb3.mono (by omega)))
      have HB3 := Lib.hid (HB.out.trans (hb3.mono (by omega)))
      clear HX HN HB hb3 HM c0 c1
      rcases hl' with ⟨hl', hq'⟩ | ⟨hl', hq'⟩
      all_goals (
        go_wp2_with fail
        have hdiff : t - lo ≤ 1023 := by omega
        clear hl hm hl' hl0 hlt hbt hk hkl
        go_loopw [3, 8] (fun v x wr => ∃ k : Int, lo ≤ k ∧ k ≤ t ∧ x = .int .u64 k ∧ wr.ownsRow (w.heap.size + 1) 23 1 v (gap l lo k).length ((gap l lo k).map (Value.int .u64)) ∧ Blk wr w.heap.size 39 #[.int .i64 sz, .slice A l.length cap] ∧ Nums .u64 wr w.heap.size A l ∧ Below w.heap.size w wr) (fun _ x _ => (t - intOf x).toNat)
        case atStart => exact ⟨lo, by omega, by omega, by rw [hq'], by rw [gap_zero]; exact World.ownsRow_nil _ _ _ _, HX3.out, HN3.out, HB3.out⟩
        case round =>
          obtain ⟨k, g0, g1, rfl, hown, hx, hN, hB⟩ := hrel
          have HX := Lib.hid hx
          have HN := Lib.hid hN
          have HB := Lib.hid hB
          have hszw := hx.lt
          clear hx hN hB HX3 HN3 HB3
          by_cases hk : k = t
          · subst hk
            clear HH
            have HO := Lib.hid hown
            clear hown
            go_wp2_with fail
            go_ret
            exact ⟨_, rfl, by rw [hlo]; exact own_below HO.out (by omega), HB.out⟩
          have hk' : k < t := by omega
          have k0 : 0 ≤ k := by omega
          have kb : k + 1 ≤ 18446744073709551615 := by omega
          have HH := Lib.hid (HH k wr HN.out)
          have c1 : wr.cell? ⟨w.heap.size, 1, none⟩ = some (.slice A l.length cap) := Blk.cell HX.out 1
          by_cases hin : k ∈ l
          · have hg := gap_miss l lo k g0 hin
            rw [show decide (k ∈ l) = true by simp [hin]] at HH
            have HO := Lib.hid hown
            clear hown hin
            go_wp2_with fail
            refine HH.out.mono ?_
            rintro e w' ⟨rfl, rfl⟩
            clear HH
            go_wp2_with fail
            go_roundw
            case rel => exact ⟨k + 1, by go_light; omega, by go_light; omega, rfl, by rw [hg]; exact HO.out, HX.out, HN.out, HB.out⟩
            case measure => simp [intOf]; go_light; omega
          · have hg := gap_hit l lo k g0 hin
            have hgl := gap_len l lo k
            have hgl' : (gap l lo k).length ≤ 1024 := by omega
            rw [show decide (k ∈ l) = false by simp [hin]] at HH
            clear hin hgl
            go_wp2_with fail
            refine HH.out.mono ?_
            rintro e w' ⟨rfl, rfl⟩
            clear HH
            go_wp2_with (at_builtin; refine wpList_append_own _ rfl _ _ 22 rfl (w.heap.size + 1) 23 i0 (.int .u64 0) 1 8 Try.underlying22 hi hz0 hz1 hz2 rfl (by decide) _ _ _ rfl (hown.alloc _) ⟨wr.heap.size, 0, none⟩ 1 1 [.int .u64 k] rfl rfl (cell_one_new _ _ _) (by simp [Value.oneCell']) (by simp [maxLen]; omega) (by omega) (by simp; omega) ?_; intro v' w5 hown' hgrow _; obtain ⟨hx5, hb5⟩ := app_tail1 HX.out hown hgrow)
            go_roundw
            case rel => exact ⟨k + 1, by go_light; omega, by go_light; omega, rfl, by rw [hg]; simpa using hown', hx5, HN.out.below hb5, HB.out.trans hb5⟩
            case measure => simp [intOf]; go_light; omega)
end Go.Proofs.Ytihedeijfofogaa
