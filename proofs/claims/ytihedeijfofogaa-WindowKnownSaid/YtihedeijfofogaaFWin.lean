/- The window's other functions, by contracts. Conditions: numbers of their kinds. -/
import Derived.Test.YtihedeijfofogaaEWin
namespace Go.Proofs.Ytihedeijfofogaa
open Go.RowKit Go.Shelf

theorem top_win (b : Nat) (sz : Int) (l : List Int) (k0 k1 k2 : Int) (w : World) (hw : Win w b sz l k0 k1 k2) :
    Calls Try.prog 11 #[.pointer (some ⟨b, 0, none⟩)] w fun e w' => e = .returned (.tuple #[.int .u64 (topL l), .bool (!l.isEmpty)]) ∧ ∃ k, w' = w.drewN k := by
  obtain ⟨c, hr, hx⟩ := hw
  have c17 : w.cell? ⟨b, 17, none⟩ = some (.int .u64 (topL l)) := Blk.cell hx 17
  have c19 : w.cell? ⟨b, 19, none⟩ = some (.bool (!l.isEmpty)) := Blk.cell hx 19
  generalize topL l = t at c17 ⊢
  generalize (!l.isEmpty) = a at c19 ⊢
  clear hx hr
  go_enter Try.func11, Try.ntmps11
  go_wp2
  go_quiet (fail)
  go_wp2
  go_ret2
  exact ⟨rfl, _, rfl⟩
theorem top_nil (w : World) : Calls Try.prog 11 #[.pointer none] w fun e w' => e = .returned (.tuple #[.int .u64 0, .bool false]) ∧ w = w' := by
  go_enter Try.func11, Try.ntmps11
  go_wp2
  go_ret2
  exact ⟨rfl, rfl⟩
theorem look_nil (n : Int) (w : World) : Calls Try.prog 12 #[.pointer none, .int .u64 n] w fun e w' => e = .returned (.int .i64 2) ∧ w = w' := by
  go_enter Try.func12, Try.ntmps12
  go_wp2
  go_ret
  exact ⟨rfl, rfl⟩
theorem in_nil (n : Int) (w : World) : Calls Try.prog 10 #[.pointer none, .int .u64 n] w fun e w' => e = .returned (.int .i64 2) ∧ w = w' := by
  go_enter Try.func10, Try.ntmps10
  go_wp2_with (go_at_call 12; refine (look_nil _ _).mono ?_; rintro e w' ⟨rfl, rfl⟩)
  go_ret
  exact ⟨rfl, rfl⟩
/-- What is counted of a state. -/
def cnt (k0 k1 k2 s : Int) : Int := if s = 0 then k0 else if s = 1 then k1 else if s = 2 then k2 else 0
theorem count_win (b : Nat) (sz : Int) (l : List Int) (k0 k1 k2 s : Int) (w : World) (hw : Win w b sz l k0 k1 k2) :
    Calls Try.prog 14 #[.pointer (some ⟨b, 0, none⟩), .int .i64 s] w fun e w' => e = .returned (.int .u64 (cnt k0 k1 k2 s)) ∧ w = w' := by
  obtain ⟨c, hr, hx⟩ := hw
  have c20 : w.cell? ⟨b, 20, none⟩ = some (.int .u64 k0) := Blk.cell hx 20
  have c21 : w.cell? ⟨b, 21, none⟩ = some (.int .u64 k1) := Blk.cell hx 21
  have c22 : w.cell? ⟨b, 22, none⟩ = some (.int .u64 k2) := Blk.cell hx 22
  clear hx hr
  by_cases h0 : s = 0
  · subst h0
    go_enter Try.func14, Try.ntmps14
    go_wp2
    go_ret
    exact ⟨rfl, rfl⟩
  by_cases h1 : s = 1
  · subst h1
    go_enter Try.func14, Try.ntmps14
    go_wp2
    go_ret
    exact ⟨rfl, rfl⟩
  by_cases h2 : s = 2
  · subst h2
    go_enter Try.func14, Try.ntmps14
    go_wp2
    go_ret
    exact ⟨rfl, rfl⟩
  have e : cnt k0 k1 k2 s = 0 := by unfold cnt; rw [if_neg h0, if_neg h1, if_neg h2]
  rw [e]
  have h : s < 0 ∨ 3 ≤ s := by omega
  clear e h0 h1 h2
  rcases h with h | h
  · go_enter Try.func14, Try.ntmps14
    go_wp2
    go_ret
    exact ⟨rfl, rfl⟩
  · have h' : 0 ≤ s := by omega
    go_enter Try.func14, Try.ntmps14
    go_wp2
    go_ret
    exact ⟨rfl, rfl⟩
theorem count_nil (s : Int) (w : World) : Calls Try.prog 14 #[.pointer none, .int .i64 s] w fun e w' => e = .returned (.int .u64 0) ∧ w = w' := by
  go_enter Try.func14, Try.ntmps14
  go_wp2
  go_ret
  exact ⟨rfl, rfl⟩
theorem run_index0 (w : World) : Sem.run Try.prog (Instr.index 63 (.agg #[.string ⟨#[110, 101, 119]⟩, .string ⟨#[116, 119, 105, 99, 101]⟩, .string ⟨#[108, 97, 116, 101]⟩]) (.int .i64 0)) w = .ok (.string ⟨#[110, 101, 119]⟩) w := by kernel_rfl
theorem run_index1 (w : World) : Sem.run Try.prog (Instr.index 63 (.agg #[.string ⟨#[110, 101, 119]⟩, .string ⟨#[116, 119, 105, 99, 101]⟩, .string ⟨#[108, 97, 116, 101]⟩]) (.int .i64 1)) w = .ok (.string ⟨#[116, 119, 105, 99, 101]⟩) w := by kernel_rfl
theorem run_index2 (w : World) : Sem.run Try.prog (Instr.index 63 (.agg #[.string ⟨#[110, 101, 119]⟩, .string ⟨#[116, 119, 105, 99, 101]⟩, .string ⟨#[108, 97, 116, 101]⟩]) (.int .i64 2)) w = .ok (.string ⟨#[108, 97, 116, 101]⟩) w := by kernel_rfl
/-- A state's name. -/
def word (s : Int) : ByteArray := if s = 0 then ⟨#[110, 101, 119]⟩ else if s = 1 then ⟨#[116, 119, 105, 99, 101]⟩ else if s = 2 then ⟨#[108, 97, 116, 101]⟩ else ⟨#[]⟩
theorem word_any (s : Int) (w : World) : Calls Try.prog 20 #[.int .i64 s] w fun e w' => e = .returned (.string (word s)) ∧ w = w' := by
  by_cases h0 : s = 0
  · subst h0
    go_enter Try.func20, Try.ntmps20
    go_wp2_with (simp only [run_index0])
    go_ret
    exact ⟨rfl, rfl⟩
  by_cases h1 : s = 1
  · subst h1
    go_enter Try.func20, Try.ntmps20
    go_wp2_with (simp only [run_index1])
    go_ret
    exact ⟨rfl, rfl⟩
  by_cases h2 : s = 2
  · subst h2
    go_enter Try.func20, Try.ntmps20
    go_wp2_with (simp only [run_index2])
    go_ret
    exact ⟨rfl, rfl⟩
  have e : word s = ⟨#[]⟩ := by unfold word; rw [if_neg h0, if_neg h1, if_neg h2]
  rw [e]
  have h : s < 0 ∨ 3 ≤ s := by omega
  clear e h0 h1 h2
  rcases h with h | h
  · go_enter Try.func20, Try.ntmps20
    go_wp2
    go_ret
    exact ⟨rfl, rfl⟩
  · have h' : 0 ≤ s := by omega
    go_enter Try.func20, Try.ntmps20
    go_wp2
    go_ret
    exact ⟨rfl, rfl⟩
theorem refword_any (s : Int) (w : World) : Calls Try.prog 21 #[.int .i64 s] w fun e w' => e = .returned (.string (word s)) ∧ w = w' := by
  by_cases h0 : s = 0
  · subst h0
    go_enter Try.func21, Try.ntmps21
    go_wp2
    go_ret
    exact ⟨rfl, rfl⟩
  by_cases h1 : s = 1
  · subst h1
    go_enter Try.func21, Try.ntmps21
    go_wp2
    go_ret
    exact ⟨rfl, rfl⟩
  by_cases h2 : s = 2
  · subst h2
    go_enter Try.func21, Try.ntmps21
    go_wp2
    go_ret
    exact ⟨rfl, rfl⟩
  have e : word s = ⟨#[]⟩ := by unfold word; rw [if_neg h0, if_neg h1, if_neg h2]
  rw [e]
  clear e
  go_enter Try.func21, Try.ntmps21
  go_wp2
  go_ret
  exact ⟨rfl, rfl⟩
theorem of_good (sz : Int) (w : World) (s0 : 1 ≤ sz) (s1 : sz ≤ 1024) :
    Calls Try.prog 9 #[.int .i64 sz] w fun e w' => e = .returned (.tuple #[.pointer (some ⟨w.heap.size, 0, none⟩), .int .i64 0]) ∧ w' = w.alloc (.cells (wc sz 0 0 false (fun _ => 0) 0 0 0) 53) := by
  go_enter Try.func9, Try.ntmps9
  go_wp2
  go_ret2
  exact ⟨rfl, rfl⟩
theorem of_win (sz : Int) (w : World) (s0 : 1 ≤ sz) (s1 : sz ≤ 1024) :
    Calls Try.prog 9 #[.int .i64 sz] w fun e w' => e = .returned (.tuple #[.pointer (some ⟨w.heap.size, 0, none⟩), .int .i64 0]) ∧ Win w' w.heap.size sz [] 0 0 0 ∧ Below w.heap.size w w' := by
  refine (of_good sz w s0 s1).mono ?_
  rintro e w' ⟨rfl, rfl⟩
  exact ⟨rfl, ⟨_, rel_nil, Blk.new w 53 _⟩, (Below.refl _ w).alloc (Nat.le_refl _) _⟩
theorem of_bad (sz : Int) (w : World) (h : sz < 1 ∨ 1024 < sz) :
    Calls Try.prog 9 #[.int .i64 sz] w fun e w' => e = .returned (.tuple #[.pointer none, .int .i64 2]) ∧ w = w' := by
  by_cases h1 : sz < 1
  · clear h
    go_enter Try.func9, Try.ntmps9
    go_wp2
    go_ret2
    exact ⟨rfl, rfl⟩
  · have h2 : 1024 < sz := by omega
    clear h
    go_enter Try.func9, Try.ntmps9
    go_wp2
    go_ret2
    exact ⟨rfl, rfl⟩

theorem missL_len (sz : Int) (l : List Int) (s1 : sz ≤ 1024) (h : ∀ x ∈ l, 0 ≤ x) : (missL sz l).length ≤ 1024 := by
  unfold missL
  by_cases hl : l = []
  · rw [if_pos hl]; simp
  · rw [if_neg hl]
    unfold gap
    refine Nat.le_trans (List.length_filter_le _ _) ?_
    simp only [List.length_map, List.length_range]
    have := lstL_ge h
    unfold bot
    split <;> omega
theorem missing_win (b : Nat) (sz : Int) (l : List Int) (k0 k1 k2 : Int) (w : World) (s0 : 1 ≤ sz) (s1 : sz ≤ 1024) (hw : Win w b sz l k0 k1 k2) :
    Calls Try.prog 13 #[.pointer (some ⟨b, 0, none⟩)] w fun e W' => ∃ v, e = .returned v ∧ W'.ownsRow w.heap.size 23 1 v (missL sz l).length ((missL sz l).map (Value.int .u64)) ∧ (v = .slice none 0 0 ↔ missL sz l = []) ∧ Below w.heap.size w W' := by
  have hlt := hw.lt
  obtain ⟨c, hr, hx⟩ := hw
  have hlen := missL_len sz l s1 (fun x hx => (hr.2.1 x hx).1)
  refine missing_row (some ⟨b, 0, none⟩) (missL sz l) w hlen fun W hB hsz hBn => ?_
  rw [← mi_missL hr sz s1]
  have hxW := hx.below hB hlt
  intro L J Jx W1 hW1 hJ _ hY h0
  have x1 := hxW.below hW1 hxW.lt
  have b1 : Boxed W1 (w.heap.size + 1) 26 (.pointer (some ⟨b, 0, none⟩)) := (hW1.block _ hsz).trans hBn
  by_cases hl : l = []
  · subst hl
    refine (missing1_no 2 L _ b sz _ _ c k0 k1 k2 J W1 b1.cell x1 h0).mono ?_
    rintro e W' ⟨he, hj⟩
    exact ⟨he, .inl ⟨_, rfl, by simpa [mi] using hj⟩⟩
  · have e : (!l.isEmpty) = true := by cases l; exact absurd rfl hl; rfl
    rw [e] at x1 ⊢
    exact missing1_some 2 (by omega) L _ b (Kpb w.heap.size (w.heap.size + 1)) sz _ _ c k0 k1 k2 s0 s1 (rel_top hr).1 (rel_top hr).2 (rel_lst hr).1 (rel_lst hr).2 hr.1
      (fun A B hk => ⟨fun h => h.below hk.1 hlt, fun h => hk.2 _ h⟩) J Jx W1 hJ hY b1 x1 h0
theorem missing_nil (w : World) :
    Calls Try.prog 13 #[.pointer none] w fun e W' => ∃ v, e = .returned v ∧ v = .slice none 0 0 ∧ Below w.heap.size w W' := by
  refine (missing_row none [] w (by simp) fun W hB hsz hBn => ?_).mono ?_
  · intro L J Jx W1 hW1 hJ _ hY h0
    refine (missing1_none 2 L _ J W1 (Boxed.cell ((hW1.block _ hsz).trans hBn)) h0).mono ?_
    rintro e W' ⟨he, hj⟩
    exact ⟨he, .inl ⟨_, rfl, hj⟩⟩
  · rintro e W' ⟨v, rfl, _, hv, hb⟩
    exact ⟨v, rfl, hv.2 rfl, hb⟩
end Go.Proofs.Ytihedeijfofogaa
