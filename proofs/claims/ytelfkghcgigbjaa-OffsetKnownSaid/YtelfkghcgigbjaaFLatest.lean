/- The latest of some numbers, by the code (a closure over the ring and the best one) and by the reference. Conditions: numbers of their kinds. -/
import Derived.Test.YtelfkghcgigbjaaLKeeps
import Derived.Deep.DeepCutAuto
import Derived.Deep.RegionWith
namespace Go.Proofs.Ytelfkghcgigbjaa
open Go.RowKit

/-- The best one behind some numbers more. -/
def latF (r best : Int) (xs : List Int) : Int := xs.foldl (fun b n => if ah r n b then lw r n else b) best
theorem latF_snoc (r best : Int) (xs : List Int) (n : Int) : latF r best (xs ++ [n]) = if ah r n (latF r best xs) then lw r n else latF r best xs := by
  unfold latF; rw [List.foldl_append]; rfl
theorem latF_bd (r : Int) (xs : List Int) (h1 : r ≤ 63) : ∀ best, 0 ≤ best → best ≤ 18446744073709551615 → 0 ≤ latF r best xs ∧ latF r best xs ≤ 18446744073709551615 := by
  have p := pw_le r h1
  induction xs with
  | nil => intro b h0 h2; exact ⟨h0, h2⟩
  | cons n xs ih =>
    intro b h0 h2
    have l := lw_bd r n
    show 0 ≤ latF r (if ah r n b then lw r n else b) xs ∧ _
    refine ih _ ?_ ?_
    · split <;> omega
    · split <;> omega
theorem take_snoc (xs : List Int) (k : Nat) (u : Int) (h : xs[k]? = some u) : xs.take (k + 1) = xs.take k ++ [u] := by
  rw [List.take_add_one, h]; rfl
theorem ah_cut (r a : Int) : ah r a (lw r a) = false := by
  have e : fr r a (lw r a) = 0 := by unfold fr; rw [lw_sub_r, Int.sub_self]; unfold lw; simp
  unfold ah; rw [e]; simp
/-- The latest one. -/
def lat (r : Int) (xs : List Int) : Int := latF r (lw r (xs.headD 0)) xs
theorem lat_ref (r x : Int) (xs : List Int) : lat r (x :: xs) = latF r (lw r x) xs := by
  show latF r (lw r x) (x :: xs) = _
  unfold latF
  rw [List.foldl_cons, ah_cut]; simp

theorem one_facts {w : World} {b : Nat} {T : TypeId} {x0 : Value} (h : Blk w b T #[x0]) : w.cell? ⟨b, 0, none⟩ = some x0 ∧ w.frozen? ⟨b, 0, none⟩ = false := ⟨h.cell 0, h.frozen 0⟩
theorem closure_any (n r best : Int) (g q : Nat) (w : World) (h0 : 1 ≤ r) (h1 : r ≤ 63) (hg : Blk w g 24 #[.int .i64 r]) (hq : Blk w q 22 #[.int .u64 best]) :
    Calls Try.prog 33 #[.int .u64 n, .pointer (some ⟨g, 0, none⟩), .pointer (some ⟨q, 0, none⟩)] w fun e w' => e = .returned (.bool (ah r n best)) ∧ w = w' := by
  obtain ⟨c0, _⟩ := one_facts hg
  obtain ⟨d0, _⟩ := one_facts hq
  go_enter Try.func33, Try.ntmps33
  go_wp2_with (first
    | (go_at_call 15; refine (ahead_yes _ _ _ _ h0 h1).mono ?_; rintro e w' ⟨rfl, rfl⟩))
  go_ret
  exact ⟨rfl, rfl⟩
theorem new1 (w : World) (T : TypeId) (x : Value) : Blk (w.alloc (.cells #[x] T)) w.heap.size T #[x] := Blk.new _ _ _
theorem set1 {w : World} {g : Nat} {T : TypeId} {x : Value} (h : Blk w g T #[x]) (a : Value) : Blk (w.setCell ⟨g, 0, none⟩ a) g T #[a] := h.set_ 0 a
theorem far_1 {w : World} {g q : Nat} {T : TypeId} {cs : Array Value} (h : Blk w g T cs) (hne : g ≠ q) (a : Value) : Blk (w.setCell ⟨q, 0, none⟩ a) g T cs := h.far (p := ⟨q, 0, none⟩) hne a
theorem below_1 {B : Nat} {a w : World} (h : Below B a w) {q : Nat} (hq : B ≤ q) (x : Value) : Below B a (w.setCell ⟨q, 0, none⟩ x) := Below.setCell (p := ⟨q, 0, none⟩) h hq _
theorem latest_none (r : Int) (A : Option Addr) (cap : Nat) (w : World) :
    Calls Try.prog 27 #[.int .i64 r, .slice A 0 cap] w fun e w' => e = .returned (.tuple #[.int .u64 0, .bool false]) ∧ Below w.heap.size w w' := by
  go_enter Try.func27, Try.ntmps27
  go_wp2
  go_ret2
  exact ⟨rfl, (Below.refl _ _).alloc (Nat.le_refl _) _⟩
theorem latest_no (r : Int) (A : Option Addr) (len cap : Nat) (w : World) (hl : 0 < len) (h0 : r < 1 ∨ 63 < r) :
    Calls Try.prog 27 #[.int .i64 r, .slice A len cap] w fun e w' => e = .returned (.tuple #[.int .u64 0, .bool false]) ∧ Below w.heap.size w w' := by
  have hz : ((len : Int) == 0) = false := by rw [beq_eq_false_iff_ne]; omega
  go_enter Try.func27, Try.ntmps27
  go_wp2_with (first
    | (go_at_call 29; refine (right_no _ _ h0).mono ?_; rintro e w' ⟨rfl, rfl⟩))
  go_ret2
  exact ⟨rfl, (Below.refl _ _).alloc (Nat.le_refl _) _⟩
set_option maxHeartbeats 2000000 in
theorem latest_yes (r : Int) (A : Option Addr) (cap : Nat) (xs : List Int) (w : World) (hl : 0 < xs.length) (h0 : 1 ≤ r) (h1 : r ≤ 63) (hN : Nums .u64 w w.heap.size A xs) :
    Calls Try.prog 27 #[.int .i64 r, .slice A xs.length cap] w fun e w' => e = .returned (.tuple #[.int .u64 (lat r xs), .bool true]) ∧ Below w.heap.size w w' := by
  have hz : ((xs.length : Int) == 0) = false := by rw [beq_eq_false_iff_ne]; omega
  obtain ⟨ad', x, rfl, hab, hx, hwx, hc⟩ := hN.at_ hl
  obtain ⟨x0, x1⟩ := u64_bd hwx
  have hml : xs.length ≤ 9223372036854775807 := by have h := hN.1; unfold maxLen at h; omega
  have HN := Lib.hid hN
  have HX := Lib.hid hx
  clear hN hwx hx
  have hc1 : (w.alloc (.cells #[.int .i64 r] 24)).cell? (ad'.add 0) = some (.int .u64 x) := (World.cell?_alloc_lt w _ _ (block_lt_of_cell hc)).trans hc
  have ha0 : ad'.add 0 = ad' := rfl
  rw [ha0] at hc hc1
  clear ha0
  have hab' := block_lt_of_cell hc
  go_enter Try.func27, Try.ntmps27
  go_wp2_with (first
    | (go_at_call 29; refine (right_yes _ _ h0 h1).mono ?_; rintro e w' ⟨rfl, rfl⟩))
  have hr0 := new1 w 24 (.int .i64 r)
  have hB0 := (Below.refl w.heap.size w).alloc (Nat.le_refl _) (.cells #[.int .i64 r] 24)
  have hs0 : (w.alloc (.cells #[.int .i64 r] 24)).heap.size = w.heap.size + 1 := by simp
  generalize w.alloc (.cells #[.int .i64 r] 24) = w1 at *
  have HS := Lib.hid hs0
  have hlt : w.heap.size < w1.heap.size := by omega
  have hab1 : ad'.block < w1.heap.size := by omega
  have ha1 : ∀ o, (w1.alloc o).cell? ad' = some (.int .u64 x) := fun o => (World.cell?_alloc_lt w1 o _ hab1).trans hc1
  obtain ⟨c0, _⟩ := one_facts hr0
  have HR := Lib.hid hr0
  have HB := Lib.hid hB0
  clear hs0 hr0 hB0 hc
  go_upto_region 3 with fail
  go_cut [6] (fun v6 w' => ∃ q : Nat, v6 = .pointer (some ⟨q, 0, none⟩) ∧ Blk w' q 22 #[.int .u64 (lw r x)] ∧ Blk w' w.heap.size 24 #[.int .i64 r] ∧ w.heap.size < q ∧ Below w.heap.size w w')
  case first =>
    go_region_with (first
      | (go_at_call 11; refine (cut_yes _ _ _ h0 h1 x0 x1).mono ?_; rintro e w' ⟨rfl, rfl⟩))
    all_goals (go_wp2_with fail; go_meet)
    all_goals (case rel => exact ⟨_, rfl, (new1 w1 22 _).drew, (HR.out.alloc _).drew, hlt, (HB.out.alloc (Nat.le_of_lt hlt) _).drew⟩)
  case rest =>
    obtain ⟨q, rfl, hq, hr, hqlt, hb⟩ := hcut
    clear HR HB HS hc1 ha1 c0 hab1 hlt
    have HQ := Lib.hid hq
    have HR := Lib.hid hr
    have HB := Lib.hid hb
    clear hq hr hb
    have hqr : q ≠ w.heap.size := by omega
    have hrq : w.heap.size ≠ q := by omega
    have hqge : w.heap.size ≤ q := by omega
    have hmf : ∀ (fn : Fn) (first cap : Array Value) (w : World), (Instr.makeFunc fn first cap).run Try.prog w = .ok (.func fn first cap) w := fun _ _ _ _ => rfl
    have lb := lw_bd r x
    have lp := pw_le r h1
    obtain ⟨lb0, lb1⟩ := lb
    go_wp2_with fail
    go_loopw [26] (fun i wr => ∃ k : Nat, k ≤ xs.length ∧ i = .int .i64 k ∧ Blk wr q 22 #[.int .u64 (latF r (lw r x) (xs.take k))] ∧ Blk wr w.heap.size 24 #[.int .i64 r] ∧ Below w.heap.size w wr)
      (fun i _ => xs.length - (intOf i).toNat)
    case atStart => exact ⟨0, by omega, rfl, HQ.out, HR.out, HB.out⟩
    case round =>
      obtain ⟨k, hk, rfl, hq, hr, hb⟩ := hrel
      clear HQ HR HB
      by_cases hlt : k < xs.length
      · obtain ⟨ad2, n, e2, hab2, hn, hwn, hc⟩ := HN.out.at_ hlt
        cases e2
        obtain ⟨n0, n1⟩ := u64_bd hwn
        have hcr : wr.cell? (ad'.add k) = some (.int .u64 n) := (hb.cell (by rw [block_of_add]; exact hab)).trans hc
        have HT := Lib.hid (take_snoc xs k n hn)
        have HL := Lib.hid (latF_snoc r (lw r x) (xs.take k) n)
        clear hn hwn hc
        generalize latF r (lw r x) (xs.take k) = best at *
        have HQ := Lib.hid hq
        have HR := Lib.hid hr
        have HB := Lib.hid hb
        clear hq hr hb
        obtain ⟨c0, _⟩ := one_facts HR.out
        obtain ⟨d0, f0⟩ := one_facts HQ.out
        have hlt' : (k : Int) < (xs.length : Int) := by omega
        go_wp2_with fail
        refine (closure_any _ _ _ _ _ _ h0 h1 HR.out HQ.out).mono ?_
        rintro e w' ⟨rfl, rfl⟩
        cases hah : ah r n best
        · have HE : latF r (lw r x) (xs.take (k + 1)) = best := by rw [HT.out, HL.out, hah]; simp
          have HE := Lib.hid HE
          go_wp2_with fail
          go_roundw
          case rel => first | exact ⟨k + 1, by omega, by go_num, by rw [HE.out]; exact HQ.out, HR.out, HB.out⟩ | ((repeat apply Exists.intro); exact ⟨⟨k + 1, by omega, by go_num, by rw [HE.out]; exact HQ.out, HR.out, HB.out⟩, rfl⟩)
          case measure => simp [intOf]; omega
        · have HE : latF r (lw r x) (xs.take (k + 1)) = lw r n := by rw [HT.out, HL.out, hah]; simp
          have HE := Lib.hid HE
          go_wp2_with fail
          refine (cut_yes _ _ _ h0 h1 n0 n1).mono ?_
          rintro e w' ⟨rfl, rfl⟩
          go_wp2_with fail
          go_roundw
          case rel => first | exact ⟨k + 1, by omega, by go_num, by rw [HE.out]; exact set1 HQ.out _, far_1 HR.out hrq _, below_1 HB.out hqge _⟩ | ((repeat apply Exists.intro); exact ⟨⟨k + 1, by omega, by go_num, by rw [HE.out]; exact set1 HQ.out _, far_1 HR.out hrq _, below_1 HB.out hqge _⟩, rfl⟩)
          case measure => simp [intOf]; omega
      · have e : k = xs.length := by omega
        subst e
        have HT : xs.take xs.length = xs := List.take_of_length_le (Nat.le_refl _)
        rw [HT] at hq
        obtain ⟨d0, f0⟩ := one_facts hq
        have HB := Lib.hid hb
        have he : lat r xs = latF r (lw r x) xs := by
          unfold lat
          have hx := HX.out
          cases xs with
          | nil => simp at hl
          | cons y ys => simp at hx; subst hx; rfl
        have HE := Lib.hid he
        clear hq hr hb HT he
        go_wp2_with fail
        go_ret2
        refine ⟨?_, HB.out⟩
        rw [HE.out]
        rfl

theorem rlatest_no (r : Int) (A : Option Addr) (len cap : Nat) (w : World) (h0 : r < 1 ∨ 63 < r) :
    Calls Try.prog 28 #[.int .i64 r, .slice A len cap] w fun e w' => e = .returned (.tuple #[.int .u64 0, .bool false]) ∧ w = w' := by
  go_enter Try.func28, Try.ntmps28
  go_wp2_with (first
    | (go_at_call 19; refine (rright_no _ _ h0).mono ?_; rintro e w' ⟨rfl, rfl⟩))
  go_ret2
  exact ⟨rfl, rfl⟩
theorem rlatest_none (r : Int) (A : Option Addr) (cap : Nat) (w : World) (h0 : 1 ≤ r) (h1 : r ≤ 63) :
    Calls Try.prog 28 #[.int .i64 r, .slice A 0 cap] w fun e w' => e = .returned (.tuple #[.int .u64 0, .bool false]) ∧ w = w' := by
  go_enter Try.func28, Try.ntmps28
  go_wp2_with (first
    | (go_at_call 19; refine (rright_yes _ _ h0 h1).mono ?_; rintro e w' ⟨rfl, rfl⟩))
  go_ret2
  exact ⟨rfl, rfl⟩
set_option maxHeartbeats 2000000 in
theorem rlatest_yes (r : Int) (A : Option Addr) (cap : Nat) (xs : List Int) (w : World) (hl : 0 < xs.length) (h0 : 1 ≤ r) (h1 : r ≤ 63) (hN : Nums .u64 w w.heap.size A xs) :
    Calls Try.prog 28 #[.int .i64 r, .slice A xs.length cap] w fun e w' => e = .returned (.tuple #[.int .u64 (lat r xs), .bool true]) ∧ w = w' := by
  have hz : ((xs.length : Int) == 0) = false := by rw [beq_eq_false_iff_ne]; omega
  obtain ⟨ad', x, rfl, hab, hx, hwx, hc⟩ := hN.at_ hl
  obtain ⟨x0, x1⟩ := u64_bd hwx
  have hml : xs.length ≤ 9223372036854775807 := by have h := hN.1; unfold maxLen at h; omega
  have h1t : latF r (lw r x) (xs.take 1) = lw r x := by
    rw [take_snoc xs 0 x hx, List.take_zero, List.nil_append]
    show (if ah r x (lw r x) then lw r x else lw r x) = _
    split <;> rfl
  have HN := Lib.hid hN
  have HX := Lib.hid hx
  have H1 := Lib.hid h1t
  have ha0 : ad'.add 0 = ad' := rfl
  rw [ha0] at hc
  clear hN hwx hx h1t ha0
  have hlb := lw_bd r x
  have hlp := pw_le r h1
  obtain ⟨hlb0, hlb1⟩ := hlb
  have hl' : (0 : Int) < (xs.length : Int) := by omega
  go_enter Try.func28, Try.ntmps28
  go_wp2_with (first
    | (go_at_call 19; refine (rright_yes _ _ h0 h1).mono ?_; rintro e w' ⟨rfl, rfl⟩)
    | (go_at_call 30; refine (rcut_yes _ _ _ h0 h1 x0 x1).mono ?_; rintro e w' ⟨rfl, rfl⟩))
  go_loop [6, 7] (fun v i => ∃ k : Nat, 1 ≤ k ∧ k ≤ xs.length ∧ i = .int .i64 k ∧ v = .int .u64 (latF r (lw r x) (xs.take k))) (fun _ i => xs.length - (intOf i).toNat)
  case atStart => exact ⟨1, by omega, by omega, rfl, by rw [H1.out]⟩
  case round =>
    obtain ⟨k, hk1, hk, rfl, rfl⟩ := hrel
    by_cases hlt : k < xs.length
    · obtain ⟨ad2, n, e2, hab2, hn, hwn, hcr⟩ := HN.out.at_ hlt
      cases e2
      obtain ⟨n0, n1⟩ := u64_bd hwn
      have HT := Lib.hid (take_snoc xs k n hn)
      have HL := Lib.hid (latF_snoc r (lw r x) (xs.take k) n)
      have hbb := latF_bd r (xs.take k) h1 (lw r x) hlb0 (by omega)
      obtain ⟨hb0, hb1⟩ := hbb
      clear hn hwn
      generalize latF r (lw r x) (xs.take k) = best at *
      have hlt' : (k : Int) < (xs.length : Int) := by omega
      go_wp2_with fail
      refine (rahead_yes _ _ _ _ h0 h1 n0 n1 hb0 hb1).mono ?_
      rintro e w' ⟨rfl, rfl⟩
      cases hah : ah r n best
      · have he : latF r (lw r x) (xs.take (k + 1)) = best := by rw [HT.out, HL.out, hah]; simp
        have HE := Lib.hid he
        clear he
        go_wp2_with fail
        go_round
        case rel => exact ⟨k + 1, by omega, by omega, by go_num, by rw [HE.out]⟩
        case measure => simp [intOf]; omega
      · have he : latF r (lw r x) (xs.take (k + 1)) = lw r n := by rw [HT.out, HL.out, hah]; simp
        have HE := Lib.hid he
        clear he
        go_wp2_with fail
        refine (rcut_yes _ _ _ h0 h1 n0 n1).mono ?_
        rintro e w' ⟨rfl, rfl⟩
        go_wp2_with fail
        go_round
        case rel => exact ⟨k + 1, by omega, by omega, by go_num, by rw [HE.out]⟩
        case measure => simp [intOf]; omega
    · have e : k = xs.length := by omega
      subst e
      have HT : xs.take xs.length = xs := List.take_of_length_le (Nat.le_refl _)
      have he : lat r xs = latF r (lw r x) xs := by
        unfold lat
        have hx := HX.out
        cases xs with
        | nil => simp at hl
        | cons y ys => simp at hx; subst hx; rfl
      have HE := Lib.hid he
      clear he
      rw [HT]
      clear HT
      go_wp2_with fail
      go_ret2
      refine ⟨?_, rfl⟩
      rw [HE.out]
      rfl
end Go.Proofs.Ytelfkghcgigbjaa
