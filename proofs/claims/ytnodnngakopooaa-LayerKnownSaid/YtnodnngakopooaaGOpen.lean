/- A frame's facts that came in, opened to their cells. Conditions: none. -/
import Derived.Test.YtnodnngakopooaaAFil
import Derived.Deep.Slices
import Derived.Deep.Fields
import Derived.ChangeSame
import Derived.ProofKit
namespace Go.Proofs.Ytnodnngakopooaa
open Go.RowKit Go.ChangeShapes Go.WideShapes Go.Deep

section
variable {H : Type} {enc : TypeId × Value → H} {P : Program} {w : World} {base : Nat} {spare : Nat → Bool} {held : Bool}
theorem open_struct_cells {e : TypeId} {fs : Array Field} {fuel : Nat} {cs : List Value} {x : DataW H × List MemPlace} (he : P.underlying e = some (.struct fs))
    (hone : oneCellFields P fs = true) (hC : P.cellsOf e = fs.size) (h : DataW.trod enc P w base spare held fuel e cs = some x) :
    cs.length = fs.size ∧ ∀ (j : Nat) (f : Field) (v : Value), fs[j]? = some f → cs[j]? = some v → ∃ (y : DataW H × List MemPlace) (n : Nat), DataW.trod enc P w base spare held n f.type [v] = some y := by
  obtain ⟨ys, n', hn', hy, hlen, hyl, hf⟩ := DataW.trod_struct he h
  refine ⟨by omega, fun j f v hj hv => ?_⟩
  obtain ⟨ho, hk⟩ := hone_of hone j f hj
  have hjl : j < fs.size := (Array.getElem?_eq_some_iff.1 hj).1
  have h1 := hf j f hj
  rw [ho, hk] at h1
  obtain ⟨hjc, hv'⟩ := List.getElem?_eq_some_iff.1 hv
  have hone' : (cs.drop j).take 1 = [v] := by
    rw [List.drop_eq_getElem_cons (by omega), hv']
    rfl
  rw [hone'] at h1
  have hys : ys[j]? = some (ys[j]'(by omega)) := List.getElem?_eq_getElem (by omega)
  exact ⟨_, n', h1.trans hys⟩
end
theorem array6 {α : Type} {cs : Array α} (h : cs.size = 6) : ∃ c0 c1 c2 c3 c4 c5, cs = #[c0, c1, c2, c3, c4, c5] := by
  obtain ⟨l⟩ := cs
  match l, h with
  | [c0, c1, c2, c3, c4, c5], _ => exact ⟨c0, c1, c2, c3, c4, c5, rfl⟩
def IsFa (v : Value) : Prop := ∃ x : Fa, v = .agg x.cells ∧ x.ok
theorem facts_open {H : Type} {enc : TypeId × Value → H} {W : World} {base : Nat} {v : Value} {d : DataW H} {p : List MemPlace} (hv : Value.okWide Try.prog W .any base 33 v)
    (h : DataW.Trod enc Try.prog W 0 (fun _ => true) true 33 v d p) : IsFa v := by
  obtain ⟨cs, rfl, hsz⟩ := okWide_struct Try.underlying33 hv
  obtain ⟨c0, c1, c2, c3, c4, c5, rfl⟩ := array6 (hsz.trans (by kernel_rfl))
  obtain ⟨fuel, hf⟩ := h
  obtain ⟨-, hc⟩ := open_struct_cells Try.underlying33 (by kernel_rfl) (by kernel_rfl) hf
  obtain ⟨y0, n0, t0⟩ := hc 0 _ c0 rfl rfl
  obtain ⟨y1, n1, t1⟩ := hc 1 _ c1 rfl rfl
  obtain ⟨y2, n2, t2⟩ := hc 2 _ c2 rfl rfl
  obtain ⟨y3, n3, t3⟩ := hc 3 _ c3 rfl rfl
  obtain ⟨y4, n4, t4⟩ := hc 4 _ c4 rfl rfl
  obtain ⟨y5, n5, t5⟩ := hc 5 _ c5 rfl rfl
  obtain ⟨x0, g0, _⟩ := DataW.trod_bool Try.underlying4 t0
  obtain ⟨x1, g1, _, f1⟩ := DataW.trod_int Try.underlying5 t1
  obtain ⟨x2, g2, _⟩ := DataW.trod_bool Try.underlying4 t2
  obtain ⟨x3, g3, _⟩ := DataW.trod_bool Try.underlying4 t3
  obtain ⟨x4, g4, _⟩ := DataW.trod_bool Try.underlying4 t4
  obtain ⟨x5, g5, _, f5⟩ := DataW.trod_int Try.underlying5 t5
  simp at g0 g1 g2 g3 g4 g5
  subst g0 g1 g2 g3 g4 g5
  exact ⟨⟨x0, x1, x2, x3, x4, x5⟩, rfl, u8_bd f1, u8_bd f5⟩
end Go.Proofs.Ytnodnngakopooaa
