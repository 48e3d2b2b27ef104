/- A slice of acts that came in, opened to its cells. Conditions: none. -/
import Derived.Test.YtnodnngakopooaaGOpen
namespace Go.Proofs.Ytnodnngakopooaa
open Go.RowKit Go.ChangeShapes Go.WideShapes Go.Deep

section
variable {H : Type} {enc : TypeId × Value → H} {P : Program} {w : World} {base : Nat} {spare : Nat → Bool} {held : Bool}
theorem open_slice_structs {t e : TypeId} {fs : Array Field} {fuel : Nat} {cs : List Value} {x : DataW H × List MemPlace} (ht : P.underlying t = some (.slice e)) (he : P.underlying e = some (.struct fs)) (h : DataW.trod enc P w base spare held fuel t cs = some x) :
    cs = [.slice none 0 0] ∨
    ∃ (a : Addr) (len cap : Nat), cs = [.slice (some a) len cap] ∧ len ≤ cap ∧ cap ≤ maxLen ∧
      ∀ i, i < len → ∃ cs' : List Value, cs'.length = P.cellsOf e ∧ (∀ j, j < P.cellsOf e → w.cell? (a.add (i * P.cellsOf e + j)) = cs'[j]?) ∧
        ∀ (j : Nat) (f : Field), fs[j]? = some f → ∃ (y : DataW H × List MemPlace) (n : Nat), DataW.trod enc P w base spare held n f.type ((cs'.drop f.offset).take (P.cellsOf f.type)) = some y := by
  rcases open_slice ht h with h0 | ⟨a, len, cap, m, n, D, Pl, hcs, hb, hl, hm, hmm, hx, hi⟩
  · exact .inl h0.1
  · refine .inr ⟨a, len, cap, hcs, hl, hm, fun i him => ?_⟩
    have him' : i < m := by rw [hmm]; split <;> omega
    obtain ⟨cs', hc, ht'⟩ := hi i him'
    obtain ⟨ys, n', hn', hy, hlen, hyl, hf⟩ := DataW.trod_struct he ht'
    obtain ⟨_, hcl, hat⟩ := World.cells?_some hc
    refine ⟨cs', hcl, fun j hj => ?_, fun j f hj => ?_⟩
    · rw [← Go.Deep.add_add]; exact hat j hj
    · have hjl : j < fs.size := (Array.getElem?_eq_some_iff.1 hj).1
      have hys : ys[j]? = some (ys[j]'(by omega)) := List.getElem?_eq_getElem (by omega)
      exact ⟨_, n', (hf j f hj).trans hys⟩
end
/-- An act. -/
structure Ac where
  act : Int
  x : Fa
  known : Bool
  cap : Int
def Ac.cells (a : Ac) : List Value := [.int .i64 a.act, .bool a.x.key, .int .u8 a.x.tid, .bool a.x.sync, .bool a.x.drop, .bool a.x.has, .int .u8 a.x.tl0, .bool a.known, .int .i64 a.cap]
def Ac.ok (a : Ac) : Prop := a.x.ok ∧ (Lit.int .i64 a.act).wf = true ∧ (Lit.int .i64 a.cap).wf = true
theorem list9 {α : Type} {cs : List α} (h : cs.length = 9) : ∃ c0 c1 c2 c3 c4 c5 c6 c7 c8, cs = [c0, c1, c2, c3, c4, c5, c6, c7, c8] := by
  match cs, h with
  | [c0, c1, c2, c3, c4, c5, c6, c7, c8], _ => exact ⟨c0, c1, c2, c3, c4, c5, c6, c7, c8, rfl⟩
/-- Acts that lie in memory below block B. -/
def Acts (w : World) (B : Nat) (A : Option Addr) (xs : List Ac) : Prop :=
  xs.length ≤ maxLen ∧ (0 < xs.length → ∃ ad, A = some ad ∧ ad.block < B ∧ ∀ j a, xs[j]? = some a → a.ok ∧ ∀ c, c < 9 → w.cell? (ad.add (j * 9 + c)) = a.cells[c]?)
def IsActs (w : World) (v : Value) : Prop := ∃ (A : Option Addr) (cap : Nat) (xs : List Ac), v = .slice A xs.length cap ∧ xs.length ≤ cap ∧ cap ≤ maxLen ∧ Acts w w.heap.size A xs
theorem acts_open {H : Type} {enc : TypeId × Value → H} {W : World} {base : Nat} {v : Value} {d : DataW H} {p : List MemPlace} (hv : Value.okWide Try.prog W .any base 22 v)
    (h : DataW.Trod enc Try.prog W 0 (fun _ => true) true 22 v d p) : IsActs W v := by
  obtain ⟨a, len, cap, rfl⟩ := okWide_slice Try.underlying22 hv
  obtain ⟨fuel, hf⟩ := h
  rcases open_slice_structs Try.underlying22 Try.underlying35 hf with hcs | ⟨ad, l, c, hcs, hl, hm, hi⟩
  · simp [Value.cells] at hcs
    obtain ⟨rfl, rfl, rfl⟩ := hcs
    exact ⟨none, 0, [], rfl, by simp, by simp, by simp, fun h => absurd h (by simp)⟩
  · simp [Value.cells] at hcs
    obtain ⟨rfl, rfl, rfl⟩ := hcs
    have h9 : Try.prog.cellsOf 35 = 9 := by kernel_rfl
    have hx : ∀ i, i < len → ∃ a : Ac, a.ok ∧ ∀ c, c < 9 → W.cell? (ad.add (i * 9 + c)) = a.cells[c]? := by
      intro i hil
      obtain ⟨cs', hlen, hcell, hfl⟩ := hi i hil
      rw [h9] at hlen hcell
      obtain ⟨c0, c1, c2, c3, c4, c5, c6, c7, c8, rfl⟩ := list9 hlen
      obtain ⟨y0, n0, t0⟩ := hfl 0 _ rfl
      obtain ⟨y1, n1, t1⟩ := hfl 1 _ rfl
      obtain ⟨y2, n2, t2⟩ := hfl 2 _ rfl
      obtain ⟨y3, n3, t3⟩ := hfl 3 _ rfl
      have k3 : Try.prog.cellsOf 3 = 1 := by kernel_rfl
      have k4 : Try.prog.cellsOf 4 = 1 := by kernel_rfl
      have k33 : Try.prog.cellsOf 33 = 6 := by kernel_rfl
      change DataW.trod enc Try.prog W 0 (fun _ => true) true n0 3 (([c0, c1, c2, c3, c4, c5, c6, c7, c8].drop 0).take (Try.prog.cellsOf 3)) = some y0 at t0
      change DataW.trod enc Try.prog W 0 (fun _ => true) true n1 33 (([c0, c1, c2, c3, c4, c5, c6, c7, c8].drop 1).take (Try.prog.cellsOf 33)) = some y1 at t1
      change DataW.trod enc Try.prog W 0 (fun _ => true) true n2 4 (([c0, c1, c2, c3, c4, c5, c6, c7, c8].drop 7).take (Try.prog.cellsOf 4)) = some y2 at t2
      change DataW.trod enc Try.prog W 0 (fun _ => true) true n3 3 (([c0, c1, c2, c3, c4, c5, c6, c7, c8].drop 8).take (Try.prog.cellsOf 3)) = some y3 at t3
      rw [k3] at t0 t3
      rw [k4] at t2
      rw [k33] at t1
      change DataW.trod enc Try.prog W 0 (fun _ => true) true n0 3 [c0] = some y0 at t0
      change DataW.trod enc Try.prog W 0 (fun _ => true) true n1 33 [c1, c2, c3, c4, c5, c6] = some y1 at t1
      change DataW.trod enc Try.prog W 0 (fun _ => true) true n2 4 [c7] = some y2 at t2
      change DataW.trod enc Try.prog W 0 (fun _ => true) true n3 3 [c8] = some y3 at t3
      obtain ⟨z0, g0, _, f0⟩ := DataW.trod_int Try.underlying3 t0
      obtain ⟨z2, g2, _⟩ := DataW.trod_bool Try.underlying4 t2
      obtain ⟨z3, g3, _, f3⟩ := DataW.trod_int Try.underlying3 t3
      obtain ⟨-, hc⟩ := open_struct_cells Try.underlying33 (by kernel_rfl) (by kernel_rfl) t1
      obtain ⟨_, _, s0⟩ := hc 0 _ c1 rfl rfl
      obtain ⟨_, _, s1⟩ := hc 1 _ c2 rfl rfl
      obtain ⟨_, _, s2⟩ := hc 2 _ c3 rfl rfl
      obtain ⟨_, _, s3⟩ := hc 3 _ c4 rfl rfl
      obtain ⟨_, _, s4⟩ := hc 4 _ c5 rfl rfl
      obtain ⟨_, _, s5⟩ := hc 5 _ c6 rfl rfl
      obtain ⟨x0, q0, _⟩ := DataW.trod_bool Try.underlying4 s0
      obtain ⟨x1, q1, _, p1⟩ := DataW.trod_int Try.underlying5 s1
      obtain ⟨x2, q2, _⟩ := DataW.trod_bool Try.underlying4 s2
      obtain ⟨x3, q3, _⟩ := DataW.trod_bool Try.underlying4 s3
      obtain ⟨x4, q4, _⟩ := DataW.trod_bool Try.underlying4 s4
      obtain ⟨x5, q5, _, p5⟩ := DataW.trod_int Try.underlying5 s5
      simp at g0 g2 g3 q0 q1 q2 q3 q4 q5
      subst g0 g2 g3 q0 q1 q2 q3 q4 q5
      exact ⟨⟨z0, ⟨x0, x1, x2, x3, x4, x5⟩, z2, z3⟩, ⟨⟨u8_bd p1, u8_bd p5⟩, f0, f3⟩, fun c hc => hcell c hc⟩
    let f : Nat → Ac := fun i => if hlt : i < len then Classical.choose (hx i hlt) else ⟨0, ⟨false, 0, false, false, false, 0⟩, false, 0⟩
    refine ⟨some ad, cap, (List.range len).map f, by simp, by simpa using hl, hm, by simp; omega, fun h0 => ⟨ad, rfl, ?_, ?_⟩⟩
    · have h0' : 0 < len := by simpa using h0
      obtain ⟨a, -, e0⟩ := hx 0 h0'
      have e := e0 0 (by omega)
      have := block_lt_of_cell e
      rwa [block_of_add] at this
    · intro j a hj
      simp only [List.getElem?_map] at hj
      rcases Nat.lt_or_ge j len with hlt | hge
      · rw [List.getElem?_range hlt] at hj
        simp at hj
        subst hj
        have e : f j = Classical.choose (hx j hlt) := by simp [f, hlt]
        rw [e]
        exact Classical.choose_spec (hx j hlt)
      · rw [List.getElem?_eq_none (by simpa using hge)] at hj
        simp at hj
end Go.Proofs.Ytnodnngakopooaa
