/- What came, made of acts: the contract of past. Conditions: numbers of their kinds. -/
import Derived.Test.YtnodnngakopooaaRLaw
import Derived.Deep.RegionLaw
import Derived.Deep.AppendLies
import Derived.Laws.AppendOwnNone
import Derived.Deep.RegionHeld3
namespace Go.Proofs.Ytnodnngakopooaa
open Go.RowKit Go.Shelf

/-- append onto what the call owns, as one step of a region that draws. -/
theorem step_append_own {P : Program} {ops : Array Oper} {o : Oper} {a : Act} {w : World} {K : Act → World → Prop} {Q : Exit → Act → World → Prop} {E : Prop} (hgd : o.guard = none) (s x : Operand) (t : TypeId)
    (ho : o.op = .call { callee := .builtin .append, args := #[s, x], argTypes := #[t, t] })
    (base : Nat) (e : TypeId) (i : TypeInfo) (z : Value) (size bytes : Nat) (ht : P.underlying t = some (.slice e)) (hi : P.info? e = some i) (hz : i.zero = some z)
    (hsize : i.size = size) (hby : i.bytes = bytes) (hzs : z.cells.size = size) (hsz : 0 < size)
    (v : Value) (n : Nat) (xs : List Value) (hs : a.eval s = v) (hown : w.ownsRow base e size v n xs)
    (ad : Addr) (m c : Nat) (news : List Value) (hx : a.eval x = .slice (some ad) m c) (hl : news.length = m * size) (hnews : ∀ j u, news[j]? = some u → w.cell? (ad.add j) = some u) (h1 : ∀ u ∈ news, u.oneCell' = true)
    (h63 : n + m ≤ maxLen) (hbytes : (n + m) * bytes ≤ 140737488355328) (hbase : base ≤ w.heap.size)
    (h : ∀ v' w', w'.ownsRow base e size v' (n + m) (xs ++ news) → w.grownBy w' v.ownBlock → K (a.put o.dst v') w') :
    if Region.wanted o (yielded ops a.tmps) = true then Oper.wp P o a w K Q else E := by
  have hw : Region.wanted o (yielded ops a.tmps) = true := by simp [Region.wanted, hgd]
  rw [if_pos hw]
  exact wp_append_own w s x t ho base e i z size bytes ht hi hz hsize hby hzs hsz v n xs hs hown ad m c news hx hl hnews h1 h63 hbytes hbase fun v' w' h2 h3 _ => h v' w' h2 h3

def Pa.cells (p : Pa) : List Value := [.bool p.frame, .bool p.known, .bool p.key, .int .i64 p.tid, .bool p.sync, .bool p.drop, .bool p.told, .int .u8 p.tl0, .bool p.out]
/-- The cells of what came. -/
def pcells : List Pa → List Value
  | [] => []
  | p :: ps => p.cells ++ pcells ps
theorem pcells_append (ps qs : List Pa) : pcells (ps ++ qs) = pcells ps ++ pcells qs := by
  induction ps with
  | nil => rfl
  | cons p ps ih => show p.cells ++ pcells (ps ++ qs) = _; rw [ih, ← List.append_assoc]; rfl
theorem pcells_one (p : Pa) : pcells [p] = p.cells := List.append_nil _
theorem pcells_length (ps : List Pa) : (pcells ps).length = ps.length * 9 := by
  induction ps with
  | nil => rfl
  | cons p ps ih => show (p.cells ++ pcells ps).length = _; rw [List.length_append, ih, List.length_cons]; show 9 + _ = _; omega
theorem pcells_at (ps : List Pa) (j : Nat) (p : Pa) (h : ps[j]? = some p) (c : Nat) (hc : c < 9) : (pcells ps)[j * 9 + c]? = p.cells[c]? := by
  induction ps generalizing j with
  | nil => simp at h
  | cons q ps ih =>
    have hl : q.cells.length = 9 := rfl
    show (q.cells ++ pcells ps)[j * 9 + c]? = _
    cases j with
    | zero =>
      have e : q = p := by simpa using h
      subst e
      rw [List.getElem?_append_left (by rw [hl]; omega), Nat.zero_mul, Nat.zero_add]
    | succ j =>
      have h' : ps[j]? = some p := by simpa using h
      rw [List.getElem?_append_right (by rw [hl]; omega), hl, show (j + 1) * 9 + c - 9 = j * 9 + c by omega]
      exact ih j h'
theorem info27 : (Try.prog.info? 27).map (fun i => (i.zero, i.size, i.bytes)) = some (some (.agg #[.bool false, .bool false, .bool false, .int .i64 0, .bool false, .bool false, .bool false, .int .u8 0, .bool false]), 9, 24) := by kernel_rfl

/-- What past leaves: a row of its own. -/
def Rowed (w0 w : World) (v : Value) (ps : List Pa) : Prop := w.ownsRow (w0.heap.size + 1) 27 9 v ps.length (pcells ps)
theorem rowed_kept {w0 w w' : World} {v : Value} {ps : List Pa} {row : Option Nat} (h : Rowed w0 w v ps) (hg : w.grownBy w' row) (hne : v.ownBlock = none ∨ v.ownBlock ≠ row) : Rowed w0 w' v ps := World.ownsRow.kept h hg hne
theorem rowed_below {w0 w w' : World} {v : Value} {ps : List Pa} (h : Rowed w0 w v ps) (hb : Below w.heap.size w w') : Rowed w0 w' v ps := by
  refine World.ownsRow.kept h (only_of_below hb none) ?_
  cases v.ownBlock <;> simp
theorem rowed_own {w0 w w' : World} {v : Value} {ps : List Pa} (h : Rowed w0 w v ps) (hg : w.grownBy w' (some w0.heap.size)) : Rowed w0 w' v ps := by
  refine World.ownsRow.kept h hg ?_
  cases hv : v.ownBlock with
  | none => exact .inl rfl
  | some g => refine .inr fun e => ?_; have := (World.ownsRow.lt h g hv).1; have := Option.some.inj e; omega
/-- Behind an append the filter and what came in are as they were. -/
theorem rowed_rest {w0 w w' : World} {v : Value} {ps : List Pa} {f : Fl} (h : Rowed w0 w v ps) (hg : w.grownBy w' v.ownBlock) (hf : Fb w w0.heap.size f) (hb : Below w0.heap.size w0 w) : Fb w' w0.heap.size f ∧ Below w0.heap.size w0 w' := by
  have hlt : ∀ k, v.ownBlock = some k → w0.heap.size + 1 ≤ k := fun k hk => (World.ownsRow.lt h k hk).1
  refine ⟨hf.grown hg fun e => ?_, hb.grown hg (by have := hb.size; omega) fun j e => ?_⟩
  · have := hlt _ e.symm; omega
  · have := hlt _ e; omega
theorem rowed_snoc {w0 w : World} {v : Value} {ps : List Pa} {p : Pa} (h : w.ownsRow (w0.heap.size + 1) 27 9 v (ps.length + 1) (pcells ps ++ p.cells)) : Rowed w0 w v (ps ++ [p]) := by
  unfold Rowed
  rw [pcells_append, pcells_one, List.length_append]
  exact h
/-- An act's cells, as the walk reckons them. -/
theorem act_at {w0 w : World} {ad : Addr} {xs : List Ac} {k : Nat} {a : Ac} (hA : Acts w0 w0.heap.size (some ad) xs) (ha : xs[k]? = some a) (hb : Below w0.heap.size w0 w) : w.cell? (ad.add (k * 9)) = some (.int .i64 a.act) ∧ w.cell? ⟨(ad.add (k * 9)).block, (ad.add (k * 9)).off + 1, none⟩ = some (.bool a.x.key) ∧ w.cell? ⟨(ad.add (k * 9)).block, (ad.add (k * 9)).off + 2, none⟩ = some (.int .u8 a.x.tid) ∧ w.cell? ⟨(ad.add (k * 9)).block, (ad.add (k * 9)).off + 3, none⟩ = some (.bool a.x.sync) ∧ w.cell? ⟨(ad.add (k * 9)).block, (ad.add (k * 9)).off + 4, none⟩ = some (.bool a.x.drop) ∧ w.cell? ⟨(ad.add (k * 9)).block, (ad.add (k * 9)).off + 5, none⟩ = some (.bool a.x.has) ∧ w.cell? ⟨(ad.add (k * 9)).block, (ad.add (k * 9)).off + 6, none⟩ = some (.int .u8 a.x.tl0) ∧ w.cell? ⟨(ad.add (k * 9)).block, (ad.add (k * 9)).off + 7, none⟩ = some (.bool a.known) ∧ w.cell? ⟨(ad.add (k * 9)).block, (ad.add (k * 9)).off + 8, none⟩ = some (.int .i64 a.cap) := by
  obtain ⟨ad', e, hab, hc⟩ := hA.2 (by have := (List.getElem?_eq_some_iff.1 ha).1; omega)
  cases e
  obtain ⟨-, hcell⟩ := hc k a ha
  have hcw : ∀ c, c < 9 → w.cell? (ad.add (k * 9 + c)) = a.cells[c]? := fun c hc => (hb.cell (by rw [block_of_add]; exact hab)).trans (hcell c hc)
  have ez : ∀ c, w.cell? ⟨(ad.add (k * 9)).block, (ad.add (k * 9)).off + (c + 1), none⟩ = w.cell? (ad.add (k * 9 + (c + 1))) := by
    intro c
    show w.cell? ((ad.add (k * 9)).add (c + 1)) = _
    rw [Go.Deep.add_add]
  exact ⟨hcw 0 (by omega), (ez 0).trans (hcw 1 (by omega)), (ez 1).trans (hcw 2 (by omega)), (ez 2).trans (hcw 3 (by omega)), (ez 3).trans (hcw 4 (by omega)), (ez 4).trans (hcw 5 (by omega)), (ez 5).trans (hcw 6 (by omega)), (ez 6).trans (hcw 7 (by omega)), (ez 7).trans (hcw 8 (by omega))⟩
/-- What is kept within a round. -/
def Pr (w0 w : World) (f : Fl) (v : Value) (ps : List Pa) (g : Nat) (a : Ac) : Prop := Fb w w0.heap.size f ∧ Rowed w0 w v ps ∧ Below w0.heap.size w0 w ∧ Blk w g 35 a.arr ∧ Blk w (g + 1) 33 a.x.cells ∧ w0.heap.size < g ∧ (∀ k, v.ownBlock = some k → k < g) ∧ g + 1 < w.heap.size
section
variable {w0 w w' : World} {f f' : Fl} {v : Value} {ps : List Pa} {g : Nat} {a : Ac}
theorem pr_below (h : Pr w0 w f v ps g a) (hb : Below w.heap.size w w') : Pr w0 w' f v ps g a := by
  obtain ⟨h1, h2, h3, h4, h5, h6, h7, h8⟩ := h
  exact ⟨h1.below hb h1.lt, rowed_below h2 hb, h3.trans (hb.mono h3.size), h4.below hb h4.lt, h5.below hb h5.lt, h6, h7, Nat.lt_of_lt_of_le h8 hb.size⟩
theorem pr_drew (h : Pr w0 w f v ps g a) : Pr w0 w.drew f v ps g a := pr_below h (Below.refl _ w).drew
theorem pr_alloc (h : Pr w0 w f v ps g a) (o : Obj) : Pr w0 (w.alloc o) f v ps g a := pr_below h ((Below.refl _ w).alloc (Nat.le_refl _) o)
theorem pr_own (h : Pr w0 w f v ps g a) (hf : Fb w' w0.heap.size f') (hg : w.grownBy w' (some w0.heap.size)) : Pr w0 w' f' v ps g a := by
  obtain ⟨h1, h2, h3, h4, h5, h6, h7, h8⟩ := h
  exact ⟨hf, rowed_own h2 hg, below_only (Nat.le_refl _) h3 hg, h4.grown hg (by intro e; have := Option.some.inj e; omega), h5.grown hg (by intro e; have := Option.some.inj e; omega), h6, h7, Nat.lt_of_lt_of_le h8 hg.size⟩
theorem pr_start (hf : Fb w w0.heap.size f) (hr : Rowed w0 w v ps) (hb : Below w0.heap.size w0 w) (a : Ac) : Pr w0 ((w.alloc (.cells a.arr 35)).alloc (.cells a.x.cells 33)) f v ps w.heap.size a := by
  have h2 := Blk.new (w.alloc (.cells a.arr 35)) 33 a.x.cells
  rw [World.size_alloc] at h2
  exact ⟨(hf.alloc _).alloc _, rowed_below (rowed_below hr ((Below.refl _ w).alloc (Nat.le_refl _) _)) ((Below.refl _ _).alloc (Nat.le_refl _) _), (hb.alloc hb.size _).alloc (by simp; have := hb.size; omega) _, (Blk.new w 35 a.arr).alloc _, h2, hf.lt, fun k hk => (World.ownsRow.lt hr k hk).2, by simp⟩
theorem pr_cells (h : Pr w0 w f v ps g a) : (w.cell? ⟨g, 0, none⟩ = some (.int .i64 a.act) ∧ w.cell? ⟨g, 1, none⟩ = some (.bool a.x.key) ∧ w.cell? ⟨g, 2, none⟩ = some (.int .u8 a.x.tid) ∧ w.cell? ⟨g, 3, none⟩ = some (.bool a.x.sync) ∧ w.cell? ⟨g, 4, none⟩ = some (.bool a.x.drop) ∧ w.cell? ⟨g, 5, none⟩ = some (.bool a.x.has) ∧ w.cell? ⟨g, 6, none⟩ = some (.int .u8 a.x.tl0) ∧ w.cell? ⟨g, 7, none⟩ = some (.bool a.known) ∧ w.cell? ⟨g, 8, none⟩ = some (.int .i64 a.cap)) ∧ (w.cell? ⟨g + 1, 0, none⟩ = some (.bool a.x.key) ∧ w.cell? ⟨g + 1, 1, none⟩ = some (.int .u8 a.x.tid) ∧ w.cell? ⟨g + 1, 2, none⟩ = some (.bool a.x.sync) ∧ w.cell? ⟨g + 1, 3, none⟩ = some (.bool a.x.drop) ∧ w.cell? ⟨g + 1, 4, none⟩ = some (.bool a.x.has) ∧ w.cell? ⟨g + 1, 5, none⟩ = some (.int .u8 a.x.tl0)) ∧ g + 1 < w.heap.size :=
  ⟨⟨h.2.2.2.1.cell 0, h.2.2.2.1.cell 1, h.2.2.2.1.cell 2, h.2.2.2.1.cell 3, h.2.2.2.1.cell 4, h.2.2.2.1.cell 5, h.2.2.2.1.cell 6, h.2.2.2.1.cell 7, h.2.2.2.1.cell 8⟩, ⟨h.2.2.2.2.1.cell 0, h.2.2.2.2.1.cell 1, h.2.2.2.2.1.cell 2, h.2.2.2.2.1.cell 3, h.2.2.2.2.1.cell 4, h.2.2.2.2.1.cell 5⟩, h.2.2.2.2.2.2.2⟩
end
theorem alloc_below {w w' : World} {o : Obj} (h : w' = w.alloc o) : Below w.heap.size w w' := by rw [h]; exact (Below.refl _ w).alloc (Nat.le_refl _) o
theorem box_grown {w w' : World} {g : Nat} {a : Ac} {row : Option Nat} (h : Blk w g 33 a.x.cells) (hg : w.grownBy w' row) (hne : some g ≠ row) : w'.cell? ⟨g, 0, none⟩ = some (.bool a.x.key) ∧ w'.cell? ⟨g, 1, none⟩ = some (.int .u8 a.x.tid) ∧ w'.cell? ⟨g, 2, none⟩ = some (.bool a.x.sync) ∧ w'.cell? ⟨g, 3, none⟩ = some (.bool a.x.drop) ∧ w'.cell? ⟨g, 4, none⟩ = some (.bool a.x.has) ∧ w'.cell? ⟨g, 5, none⟩ = some (.int .u8 a.x.tl0) := by
  have h' := h.grown hg hne
  exact ⟨h'.cell 0, h'.cell 1, h'.cell 2, h'.cell 3, h'.cell 4, h'.cell 5⟩
/-- The contract's ending. -/
def Past (w : World) (ps : List Pa) (e : Ending) (w' : World) : Prop := ∃ v, e = .returned v ∧ Rowed w w' v ps ∧ Below w.heap.size w w'
set_option maxHeartbeats 4000000 in
set_option maxRecDepth 100000 in
theorem past_any (A : Option Addr) (cap : Nat) (xs : List Ac) (w : World) (hl : xs.length ≤ 150) (hA : Acts w w.heap.size A xs) : Calls Try.prog 9 #[.slice A xs.length cap] w (Past w (runs xs).2) := by
  have HA := Lib.hid hA
  clear hA
  obtain ⟨i0, hi, hz0, hz1, hz2⟩ := info_parts info27
  go_enter Try.func9, Try.ntmps9
  go_wp2_with fail
  refine (new_any w).mono ?_
  rintro e w1 ⟨rfl, hw1⟩
  have hf1 : Fb w1 w.heap.size new := by rw [hw1]; exact Blk.new w 59 _
  have hb1 : Below w.heap.size w w1 := by rw [hw1]; exact (Below.refl _ w).alloc (Nat.le_refl _) _
  have HF := Lib.hid hf1
  have HB := Lib.hid hb1
  clear hw1 hf1 hb1
  unfold P
  go_wp2_with fail
  go_loopw [4, 5] (fun v i wr => ∃ (k : Nat) (f : Fl) (ps : List Pa), i = .int .i64 k ∧ k ≤ xs.length ∧ runs (xs.take k) = (f, ps) ∧ Fb wr w.heap.size f ∧ Rowed w wr v ps ∧ Below w.heap.size w wr) (fun _ i _ => xs.length - (intOf i).toNat)
  case atStart => exact ⟨0, new, [], rfl, Nat.zero_le _, rfl, HF.out, World.ownsRow_nil _ _ _ _, HB.out⟩
  case round =>
    obtain ⟨k, f, ps, rfl, hk, hr, hf, ho, hb⟩ := hrel
    by_cases hlt : k < xs.length
    · obtain ⟨a, ha⟩ : ∃ a, xs[k]? = some a := ⟨_, List.getElem?_eq_getElem hlt⟩
      have hpl := runs_length xs k
      have hnx : runs (xs.take (k + 1)) = (f.step a, ps ++ told f a) := by
        rw [List.take_succ_eq_append_getElem hlt, runs_snoc, hr]
        rw [List.getElem?_eq_getElem hlt] at ha
        cases ha; rfl
      have hkept := runs_kept xs k (fun j b hj => ((HA.out.2 (by omega)).elim fun _ h => (h.2.2 j b hj).1))
      rw [hr] at hpl hkept
      have hok : f.ok := hkept.1
      obtain ⟨ad, hAd, hab, hc⟩ := HA.out.2 (by omega)
      subst hAd
      have hao := (hc k a ha).1
      have hpl' : ps.length ≤ 150 := by have : ps.length ≤ k := hpl; omega
      have HNX := Lib.hid hnx
      have HOK := Lib.hid hok
      have HAO := Lib.hid hao
      have hP := pr_start hf ho hb a
      obtain ⟨e0, e1, e2, e3, e4, e5, e6, e7, e8⟩ := act_at HA.out ha hb
      have hkk : (k : Int) < xs.length := by omega
      have kk0 : (0 : Int) ≤ (k : Int) := by omega
      clear hc ha hnx hkept hok hao hpl hr hf ho hb
      go_wp2_with fail
      obtain ⟨w2, hw2⟩ : ∃ w2, (wr.alloc (.cells a.arr 35)).alloc (.cells a.x.cells 33) = w2 := ⟨_, rfl⟩
      rw [hw2] at hP
      simp only [Ac.arr, Fa.cells] at hw2
      rw [hw2]
      obtain ⟨g, hg⟩ : ∃ g, wr.heap.size = g := ⟨_, rfl⟩
      rw [hg] at hP ⊢
      have HP := Lib.hid hP
      clear hP hw2 hg e0 e1 e2 e3 e4 e5 e6 e7 e8
      obtain ⟨⟨a0, a1, a2, a3, a4, a5, a6, a7, a8⟩, ⟨x0, x1, x2, x3, x4, x5⟩, z⟩ := pr_cells HP.out
      obtain ⟨p, hp⟩ : ∃ p, pick a.act 8 = p := ⟨_, rfl⟩
      have HPK := Lib.hid hp
      clear hp
      refine (pick_lit HPK.out _ (by omega)).mono ?_
      rintro e w' ⟨rfl, rfl⟩
      by_cases h5 : p = 5
      · subst h5
        have hst : f.step a = (f.lost a.known a.x.tid a.x.drop).1 := by unfold Fl.step; rw [if_pos HPK.out]
        have htd : told f a = [⟨false, a.known, false, min a.x.tid 3, false, a.known && a.x.drop, false, 0, false⟩] := by unfold told; rw [if_pos HPK.out]
        have hnx := HNX.out
        rw [hst, htd] at hnx
        obtain ⟨kn, hkn⟩ : ∃ kn, a.known = kn := ⟨_, rfl⟩
        rw [hkn] at hnx a7
        have HKN := Lib.hid hkn
        clear hkn
        have HL := Lib.hid (fun W (hW : Fb W w.heap.size f) => lost_any w.heap.size f kn a.x.tid a.x.drop W HAO.out.1.1.1 HAO.out.1.1.2 HOK.out hW)
        obtain ⟨t0, t1⟩ := HAO.out.1.1
        generalize (f.lost kn a.x.tid a.x.drop).1 = n at hnx HL
        have HN := Lib.hid hnx
        clear hst htd hnx HNX
        unfold P at HL
        go_wp2_with fail
        refine (HL.out w2 HP.out.1).mono ?_
        rintro e w3 ⟨rfl, hf3, hg3⟩
        have HP3 := Lib.hid (pr_own HP.out hf3 hg3)
        clear hf3 hg3 HL HP a0 a1 a2 a3 a4 a5 a6 a7 a8 x0 x1 x2 x3 x4 x5 z
        obtain ⟨⟨a0, a1, a2, a3, a4, a5, a6, a7, a8⟩, ⟨x0, x1, x2, x3, x4, x5⟩, z⟩ := pr_cells HP3.out
        rw [HKN.out] at a7
        by_cases h3 : a.x.tid ≤ 3
        · have hm : min a.x.tid 3 = a.x.tid := by omega
          have hnx := HN.out
          rw [hm] at hnx
          have HN' := Lib.hid hnx
          clear hnx hm HN
          cases kn
          · go_wp2_with (at_builtin; refine wpList_append_own _ rfl (.tmp 57) (.tmp 71) 24 rfl (w.heap.size + 1) 27 i0 _ 9 24 Try.underlying24 hi hz0 hz1 hz2 rfl (by decide) u4 ps.length (pcells ps) rfl (World.ownsRow.alloc HP3.out.2.1 _) ⟨w3.heap.size, 0, none⟩ 1 1 [.bool false, .bool false, .bool false, .int .i64 a.x.tid, .bool false, .bool false, .bool false, .int .u8 0, .bool false] rfl rfl (by exact World.news_of_block (cs := #[.bool false, .bool false, .bool false, .int .i64 a.x.tid, .bool false, .bool false, .bool false, .int .u8 0, .bool false]) (heap_alloc_new w3 _)) (by simp [Value.oneCell']) (by simp [maxLen]; omega) (by omega) (by have := HP3.out.2.2.1.size; simp; omega) ?_; intro v' w5 hown' hgrow _; obtain ⟨hf5, hb5⟩ := rowed_rest (rowed_below HP3.out.2.1 ((Below.refl _ w3).alloc (Nat.le_refl _) _)) hgrow (Blk.alloc HP3.out.1 _) (HP3.out.2.2.1.alloc HP3.out.2.2.1.size _))
            go_roundw
            case rel => exact ⟨k + 1, n, _, by simp, by omega, HN'.out, hf5, rowed_snoc hown', hb5⟩
            case measure => simp [intOf]; omega
          · go_wp2_with (at_builtin; refine wpList_append_own _ rfl (.tmp 57) (.tmp 71) 24 rfl (w.heap.size + 1) 27 i0 _ 9 24 Try.underlying24 hi hz0 hz1 hz2 rfl (by decide) u4 ps.length (pcells ps) rfl (World.ownsRow.alloc HP3.out.2.1 _) ⟨w3.heap.size, 0, none⟩ 1 1 [.bool false, .bool true, .bool false, .int .i64 a.x.tid, .bool false, .bool a.x.drop, .bool false, .int .u8 0, .bool false] rfl rfl (by exact World.news_of_block (cs := #[.bool false, .bool true, .bool false, .int .i64 a.x.tid, .bool false, .bool a.x.drop, .bool false, .int .u8 0, .bool false]) (heap_alloc_new w3 _)) (by simp [Value.oneCell']) (by simp [maxLen]; omega) (by omega) (by have := HP3.out.2.2.1.size; simp; omega) ?_; intro v' w5 hown' hgrow _; obtain ⟨hf5, hb5⟩ := rowed_rest (rowed_below HP3.out.2.1 ((Below.refl _ w3).alloc (Nat.le_refl _) _)) hgrow (Blk.alloc HP3.out.1 _) (HP3.out.2.2.1.alloc HP3.out.2.2.1.size _))
            go_roundw
            case rel => exact ⟨k + 1, n, _, by simp, by omega, HN'.out, hf5, rowed_snoc hown', hb5⟩
            case measure => simp [intOf]; omega
        · have hm : min a.x.tid 3 = 3 := by omega
          have hnx := HN.out
          rw [hm] at hnx
          have HN' := Lib.hid hnx
          clear hnx hm HN
          cases kn
          · go_wp2_with (at_builtin; refine wpList_append_own _ rfl (.tmp 57) (.tmp 71) 24 rfl (w.heap.size + 1) 27 i0 _ 9 24 Try.underlying24 hi hz0 hz1 hz2 rfl (by decide) u4 ps.length (pcells ps) rfl (World.ownsRow.alloc HP3.out.2.1 _) ⟨w3.heap.size, 0, none⟩ 1 1 [.bool false, .bool false, .bool false, .int .i64 3, .bool false, .bool false, .bool false, .int .u8 0, .bool false] rfl rfl (by exact World.news_of_block (cs := #[.bool false, .bool false, .bool false, .int .i64 3, .bool false, .bool false, .bool false, .int .u8 0, .bool false]) (heap_alloc_new w3 _)) (by simp [Value.oneCell']) (by simp [maxLen]; omega) (by omega) (by have := HP3.out.2.2.1.size; simp; omega) ?_; intro v' w5 hown' hgrow _; obtain ⟨hf5, hb5⟩ := rowed_rest (rowed_below HP3.out.2.1 ((Below.refl _ w3).alloc (Nat.le_refl _) _)) hgrow (Blk.alloc HP3.out.1 _) (HP3.out.2.2.1.alloc HP3.out.2.2.1.size _))
            go_roundw
            case rel => exact ⟨k + 1, n, _, by simp, by omega, HN'.out, hf5, rowed_snoc hown', hb5⟩
            case measure => simp [intOf]; omega
          · go_wp2_with (at_builtin; refine wpList_append_own _ rfl (.tmp 57) (.tmp 71) 24 rfl (w.heap.size + 1) 27 i0 _ 9 24 Try.underlying24 hi hz0 hz1 hz2 rfl (by decide) u4 ps.length (pcells ps) rfl (World.ownsRow.alloc HP3.out.2.1 _) ⟨w3.heap.size, 0, none⟩ 1 1 [.bool false, .bool true, .bool false, .int .i64 3, .bool false, .bool a.x.drop, .bool false, .int .u8 0, .bool false] rfl rfl (by exact World.news_of_block (cs := #[.bool false, .bool true, .bool false, .int .i64 3, .bool false, .bool a.x.drop, .bool false, .int .u8 0, .bool false]) (heap_alloc_new w3 _)) (by simp [Value.oneCell']) (by simp [maxLen]; omega) (by omega) (by have := HP3.out.2.2.1.size; simp; omega) ?_; intro v' w5 hown' hgrow _; obtain ⟨hf5, hb5⟩ := rowed_rest (rowed_below HP3.out.2.1 ((Below.refl _ w3).alloc (Nat.le_refl _) _)) hgrow (Blk.alloc HP3.out.1 _) (HP3.out.2.2.1.alloc HP3.out.2.2.1.size _))
            go_roundw
            case rel => exact ⟨k + 1, n, _, by simp, by omega, HN'.out, hf5, rowed_snoc hown', hb5⟩
            case measure => simp [intOf]; omega
      by_cases h6 : p = 6
      · subst h6
        have hst : f.step a = f.cap a.cap := by unfold Fl.step; rw [if_neg (by rw [HPK.out]; omega), if_pos HPK.out]
        have htd : told f a = [] := by unfold told; rw [if_neg (by rw [HPK.out]; omega), if_pos HPK.out]
        have hnx := HNX.out
        rw [hst, htd, List.append_nil] at hnx
        have HL := Lib.hid (fun W (hW : Fb W w.heap.size f) => cap_any w.heap.size f a.cap W hW)
        generalize f.cap a.cap = n at hnx HL
        have HN := Lib.hid hnx
        clear hst htd hnx HNX h5
        unfold P at HL
        go_wp2_with fail
        refine (HL.out w2 HP.out.1).mono ?_
        rintro e w3 ⟨rfl, hf3, hg3⟩
        have HP3 := Lib.hid (pr_own HP.out hf3 hg3)
        clear hf3 hg3 HL HP a0 a1 a2 a3 a4 a5 a6 a7 a8 x0 x1 x2 x3 x4 x5 z
        go_wp2_with fail
        go_roundw
        case rel => exact ⟨k + 1, n, ps, by simp, by omega, HN.out, HP3.out.1, HP3.out.2.1, HP3.out.2.2.1⟩
        case measure => simp [intOf]; omega
      by_cases h7 : p = 7
      · subst h7
        have hst : f.step a = { f with stopped := true } := by unfold Fl.step; rw [if_neg (by rw [HPK.out]; omega), if_neg (by rw [HPK.out]; omega), if_pos HPK.out]
        have htd : told f a = [] := by unfold told; rw [if_neg (by rw [HPK.out]; omega), if_neg (by rw [HPK.out]; omega), if_pos HPK.out]
        have hnx := HNX.out
        rw [hst, htd, List.append_nil] at hnx
        have HL := Lib.hid (fun W (hW : Fb W w.heap.size f) => halt_any w.heap.size f W hW)
        obtain ⟨n, hn⟩ : ∃ n : Fl, { f with stopped := true } = n := ⟨_, rfl⟩
        rw [hn] at hnx HL
        have HN := Lib.hid hnx
        clear hst htd hnx hn HNX h5 h6
        unfold P at HL
        go_wp2_with fail
        refine (HL.out w2 HP.out.1).mono ?_
        rintro e w3 ⟨rfl, hf3, hg3⟩
        have HP3 := Lib.hid (pr_own HP.out hf3 hg3)
        clear hf3 hg3 HL HP a0 a1 a2 a3 a4 a5 a6 a7 a8 x0 x1 x2 x3 x4 x5 z
        go_wp2_with fail
        go_roundw
        case rel => exact ⟨k + 1, n, ps, by simp, by omega, HN.out, HP3.out.1, HP3.out.2.1, HP3.out.2.2.1⟩
        case measure => simp [intOf]; omega
      have hst : f.step a = (act f a.x (rule f a.x)).1 := by unfold Fl.step; rw [if_neg (by rw [HPK.out]; exact h5), if_neg (by rw [HPK.out]; exact h6), if_neg (by rw [HPK.out]; exact h7)]
      have htd : told f a = [⟨true, true, a.x.key, a.x.ly, a.x.sync, a.x.drop, a.x.has, a.x.tl0, decide ((act f a.x (rule f a.x)).2 = 0)⟩] := by unfold told; rw [if_neg (by rw [HPK.out]; exact h5), if_neg (by rw [HPK.out]; exact h6), if_neg (by rw [HPK.out]; exact h7)]
      have hnx := HNX.out
      rw [hst, htd] at hnx
      have HL := Lib.hid (fun W (hW : Fb W w.heap.size f) => frame_any w.heap.size f a.x W hW HAO.out.1 HOK.out)
      have HX := fun W => ref_any a.x W
      have HT := fun W => tid_ref a.x W HAO.out.1
      generalize (act f a.x (rule f a.x)).1 = n at hnx HL
      generalize (act f a.x (rule f a.x)).2 = v at hnx HL
      generalize a.x.ly = l at hnx HT
      have HN := Lib.hid hnx
      have HX' := Lib.hid HX
      have HT' := Lib.hid HT
      clear hst htd hnx HNX HX HT
      unfold P at HL
      simp only [Fa.cells] at HL HX' HT'
      go_wp2_with fail
      refine (HL.out w2 HP.out.1).mono ?_
      rintro e w3 ⟨rfl, hf3, hg3⟩
      have HP3 := Lib.hid (pr_own HP.out hf3 hg3)
      clear hf3 hg3 HL HP a0 a1 a2 a3 a4 a5 a6 a7 a8 x0 x1 x2 x3 x4 x5 z
      obtain ⟨⟨a0, a1, a2, a3, a4, a5, a6, a7, a8⟩, ⟨x0, x1, x2, x3, x4, x5⟩, z⟩ := pr_cells HP3.out
      go_wp2_with fail
      go_region_held3 (fun w' => w'.cell? ⟨g + 1, 0, none⟩ = some (.bool a.x.key) ∧ w'.cell? ⟨g + 1, 1, none⟩ = some (.int .u8 a.x.tid) ∧ w'.cell? ⟨g + 1, 2, none⟩ = some (.bool a.x.sync) ∧ w'.cell? ⟨g + 1, 3, none⟩ = some (.bool a.x.drop) ∧ w'.cell? ⟨g + 1, 4, none⟩ = some (.bool a.x.has) ∧ w'.cell? ⟨g + 1, 5, none⟩ = some (.int .u8 a.x.tl0)) (go_keep)
        (first
          | (go_at_call 21; refine (HX'.out w3.drew).mono ?_; rintro e w4 ⟨rfl, hb4⟩; have HP4 := Lib.hid (pr_below (pr_drew HP3.out) hb4); clear hb4; obtain ⟨⟨b0, b1, b2, b3, b4, b5, b6, b7, b8⟩, ⟨y0, y1, y2, y3, y4, y5⟩, zb⟩ := pr_cells HP4.out)
          | (go_at_call 20; refine (HT'.out w4).mono ?_; rintro e w6 ⟨rfl, hw6⟩; have HP6 := Lib.hid (pr_below HP4.out (alloc_below hw6)); clear hw6; obtain ⟨⟨c0, c1, c2, c3, c4, c5, c6, c7, c8⟩, ⟨q0, q1, q2, q3, q4, q5⟩, zc⟩ := pr_cells HP6.out)
          | (refine step_append_own rfl (.tmp 28) (.tmp 45) 24 rfl (w.heap.size + 1) 27 i0 _ 9 24 Try.underlying24 hi hz0 hz1 hz2 rfl (by decide) u4 ps.length (pcells ps) (by simp [Act.eval]) (World.ownsRow.alloc HP6.out.2.1 _) ⟨w6.heap.size, 0, none⟩ 1 1 [.bool true, .bool true, .bool a.x.key, .int .i64 l, .bool a.x.sync, .bool a.x.drop, .bool a.x.has, .int .u8 a.x.tl0, .bool (decide (v = 0))] (by simp [Act.eval]) rfl (by exact World.news_of_block (cs := #[.bool true, .bool true, .bool a.x.key, .int .i64 l, .bool a.x.sync, .bool a.x.drop, .bool a.x.has, .int .u8 a.x.tl0, .bool (decide (v = 0))]) (heap_alloc_new w6 _)) (by simp [Value.oneCell']) (by simp [maxLen]; omega) (by omega) (by have := HP6.out.2.2.1.size; simp; omega) ?_; intro v' w7 hown' hgrow; obtain ⟨hf7, hb7⟩ := rowed_rest (rowed_below HP6.out.2.1 ((Below.refl _ w6).alloc (Nat.le_refl _) _)) hgrow (Blk.alloc HP6.out.1 _) (HP6.out.2.2.1.alloc HP6.out.2.2.1.size _); obtain ⟨d0, d1, d2, d3, d4, d5⟩ := box_grown (Blk.alloc HP6.out.2.2.2.2.1 _) hgrow (fun e => by have := HP6.out.2.2.2.2.2.2.1 _ e.symm; omega); have HE := Lib.hid (And.intro hown' (And.intro hf7 hb7)); clear hown' hgrow hf7 hb7))
      go_wp2_with fail
      go_roundw
      case rel => exact ⟨k + 1, n, _, by simp, by omega, HN.out, HE.out.2.1, rowed_snoc HE.out.1, HE.out.2.2⟩
      case measure => simp [intOf]; omega
    · obtain rfl : k = xs.length := by omega
      rw [List.take_length] at hr
      have HRR := Lib.hid hr
      have HO := Lib.hid (And.intro ho hb)
      clear hr ho hb hf
      go_wp2_with fail
      go_ret
      exact ⟨u4, rfl, by rw [HRR.out]; exact HO.out.1, HO.out.2⟩
end Go.Proofs.Ytnodnngakopooaa
