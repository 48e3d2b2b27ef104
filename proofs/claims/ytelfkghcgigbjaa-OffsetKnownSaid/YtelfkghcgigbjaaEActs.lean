/- A slice of acts that came in, opened to its cells. Conditions: none. -/
import Derived.Test.YtelfkghcgigbjaaDRef
import Derived.Deep.Slices
import Derived.Deep.Fields
import Derived.ChangeSame
import Derived.ProofKit
namespace Go.Proofs.Ytelfkghcgigbjaa
open Go.RowKit Go.ChangeShapes Go.WideShapes Go.Deep

section
variable {H : Type} {enc : TypeId × Value → H} {P : Program} {w : World} {base : Nat} {spare : Nat → Bool} {held : Bool}
theorem open_slice_cells {t e : TypeId} {fs : Array Field} {fuel : Nat} {cs : List Value} {x : DataW H × List MemPlace} (ht : P.underlying t = some (.slice e)) (he : P.underlying e = some (.struct fs))
    (hone : oneCellFields P fs = true) (hC : P.cellsOf e = fs.size) (h : DataW.trod enc P w base spare held fuel t cs = some x) :
    cs = [.slice none 0 0] ∨
    ∃ (a : Addr) (len cap : Nat), cs = [.slice (some a) len cap] ∧ len ≤ cap ∧ cap ≤ maxLen ∧
      ∀ i, i < len → ∀ (j : Nat) (f : Field), fs[j]? = some f → ∃ (v : Value) (y : DataW H × List MemPlace) (n : Nat), w.cell? (a.add (i * fs.size + j)) = some v ∧ DataW.trod enc P w base spare held n f.type [v] = some y := by
  rcases open_slice ht h with h0 | ⟨a, len, cap, m, n, D, Pl, hcs, hb, hl, hm, hmm, hx, hi⟩
  · exact .inl h0.1
  · refine .inr ⟨a, len, cap, hcs, hl, hm, fun i him j f hj => ?_⟩
    have him' : i < m := by rw [hmm]; split <;> omega
    obtain ⟨cs', hc, ht'⟩ := hi i him'
    rw [hC] at hc
    obtain ⟨ys, n', hn', hy, hlen, hyl, hf⟩ := DataW.trod_struct he ht'
    obtain ⟨_, hcl, hat⟩ := World.cells?_some hc
    obtain ⟨ho, hk⟩ := hone_of hone j f hj
    have hjl : j < fs.size := (Array.getElem?_eq_some_iff.1 hj).1
    have hcell := hat j hjl
    have hv : cs'[j]? = some (cs'[j]'(by omega)) := List.getElem?_eq_getElem (by omega)
    have h1 := hf j f hj
    rw [ho, hk] at h1
    have hone' : (cs'.drop j).take 1 = [cs'[j]'(by omega)] := by
      rw [List.drop_eq_getElem_cons (by omega)]
      rfl
    rw [hone'] at h1
    have hys : ys[j]? = some (ys[j]'(by omega)) := List.getElem?_eq_getElem (by omega)
    refine ⟨_, _, n', ?_, h1.trans hys⟩
    rw [← Go.Deep.add_add, hcell, hv]
end

/-- Acts that lie in memory below block B: each its call and two numbers. -/
def Acts (w : World) (B : Nat) (A : Option Addr) (xs : List (Int × Int × Int)) : Prop :=
  xs.length ≤ maxLen ∧ (0 < xs.length → ∃ ad, A = some ad ∧ ad.block < B ∧ ∀ j x, xs[j]? = some x →
    ((Lit.int .i64 x.1).wf = true ∧ (Lit.int .u64 x.2.1).wf = true ∧ (Lit.int .u64 x.2.2).wf = true) ∧
      w.cell? (ad.add (j * 3)) = some (.int .i64 x.1) ∧ w.cell? (ad.add (j * 3 + 1)) = some (.int .u64 x.2.1) ∧ w.cell? (ad.add (j * 3 + 2)) = some (.int .u64 x.2.2))
def IsActs (w : World) (v : Value) : Prop := ∃ (A : Option Addr) (cap : Nat) (xs : List (Int × Int × Int)), v = .slice A xs.length cap ∧ xs.length ≤ cap ∧ cap ≤ maxLen ∧ Acts w w.heap.size A xs
theorem acts_open {H : Type} {enc : TypeId × Value → H} {W : World} {base : Nat} {v : Value} {d : DataW H} {p : List MemPlace} (hv : Value.okWide Try.prog W .any base 36 v)
    (h : DataW.Trod enc Try.prog W 0 (fun _ => true) true 36 v d p) : IsActs W v := by
  obtain ⟨a, len, cap, rfl⟩ := okWide_slice Try.underlying36 hv
  obtain ⟨fuel, hf⟩ := h
  rcases open_slice_cells Try.underlying36 Try.underlying41 (by kernel_rfl) (by kernel_rfl) hf with hcs | ⟨ad, l, c, hcs, hl, hm, hi⟩
  · simp [Value.cells] at hcs
    obtain ⟨rfl, rfl, rfl⟩ := hcs
    exact ⟨none, 0, [], rfl, by simp, by simp, by simp, fun h => absurd h (by simp)⟩
  · simp [Value.cells] at hcs
    obtain ⟨rfl, rfl, rfl⟩ := hcs
    have hx : ∀ i, i < len → ∃ x : Int × Int × Int, ((Lit.int .i64 x.1).wf = true ∧ (Lit.int .u64 x.2.1).wf = true ∧ (Lit.int .u64 x.2.2).wf = true) ∧
        W.cell? (ad.add (i * 3)) = some (.int .i64 x.1) ∧ W.cell? (ad.add (i * 3 + 1)) = some (.int .u64 x.2.1) ∧ W.cell? (ad.add (i * 3 + 2)) = some (.int .u64 x.2.2) := by
      intro i hil
      obtain ⟨v0, y0, n0, e0, t0⟩ := hi i hil 0 _ rfl
      obtain ⟨v1, y1, n1, e1, t1⟩ := hi i hil 1 _ rfl
      obtain ⟨v2, y2, n2, e2, t2⟩ := hi i hil 2 _ rfl
      obtain ⟨x0, g0, _, f0⟩ := DataW.trod_int Try.underlying3 t0
      obtain ⟨x1, g1, _, f1⟩ := DataW.trod_int Try.underlying22 t1
      obtain ⟨x2, g2, _, f2⟩ := DataW.trod_int Try.underlying22 t2
      simp at g0 g1 g2
      subst g0 g1 g2
      exact ⟨(x0, x1, x2), ⟨f0, f1, f2⟩, e0, e1, e2⟩
    let f : Nat → Int × Int × Int := fun i => if hlt : i < len then Classical.choose (hx i hlt) else (0, 0, 0)
    refine ⟨some ad, cap, (List.range len).map f, by simp, by simpa using hl, hm, by simp; omega, fun h0 => ⟨ad, rfl, ?_, ?_⟩⟩
    · have h0' : 0 < len := by simpa using h0
      obtain ⟨x, _, e0, _⟩ := hx 0 h0'
      have := block_lt_of_cell e0
      rwa [block_of_add] at this
    · intro j x hj
      simp only [List.getElem?_map] at hj
      rcases Nat.lt_or_ge j len with hlt | hge
      · rw [List.getElem?_range hlt] at hj
        simp at hj
        subst hj
        show _ ∧ _
        have e : f j = Classical.choose (hx j hlt) := by simp [f, hlt]
        rw [e]
        exact Classical.choose_spec (hx j hlt)
      · rw [List.getElem?_eq_none (by simpa using hge)] at hj
        simp at hj
theorem Acts.keep {w w' : World} {B : Nat} {A : Option Addr} {xs : List (Int × Int × Int)} (h : Acts w B A xs) (hb : Below B w w') : Acts w' B A xs := by
  refine ⟨h.1, fun h0 => ?_⟩
  obtain ⟨ad, e, hbl, hc⟩ := h.2 h0
  refine ⟨ad, e, hbl, fun j x hj => ?_⟩
  obtain ⟨hw, c0, c1, c2⟩ := hc j x hj
  exact ⟨hw, (hb.cell (by rw [block_of_add]; exact hbl)).trans c0, (hb.cell (by rw [block_of_add]; exact hbl)).trans c1, (hb.cell (by rw [block_of_add]; exact hbl)).trans c2⟩
end Go.Proofs.Ytelfkghcgigbjaa
