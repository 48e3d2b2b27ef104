/-
  No cell of these rows narrows 'for every input' (looked for: loops, veiled, ifaces, maps, wideKeys, modest, calm, conditions, laid).
  DERIVED. THE GIVEN ROWS OF THIS SEAT. 5 by the template 'for every input the law returns true; each argument reads behind the call as it read before'; 0 by the template 'total and deterministic' (their statements: YtelfkghcgigbjaaTotals.lean).
  GIVEN WITH THE SEED: the statements are not yours to turn. If you find one false, say at which input.
  Laid BY PROGRAM, IN A SANDBOX (cutbox-rows.mjs): the forced cells as the released guide's own fill.sh prints them over the translation e74e70e564f988a7… (all of the seat's roots in one cut). By AI agents, Wed Nov 11 2026. No macro, syntax, notation, axiom, sorry.
-/
import Derived.Test.YtelfkghcgigbjaaChecked
import GoSem.Claim
import GoSem.ClaimJoined
import GoSem.ClaimMapViews
import Derived.JoinedTies
import Derived.KernelRfl
namespace Go.Proofs.Ytelfkghcgigbjaa
/- THE CELL 'sum', in the pinned program and in every row, IS THE sha256 OF THE DUMP (.gsa) THAT YtelfkghcgigbjaaProg.lean LOADS. Nothing in Lean hashes anything: it is a label: what it is worth is what the hold of that sum in a sandbox is worth. -/
noncomputable def Try.pinned : Pinned := { name := "ytelfkghcgigbjaa", sum := "e74e70e564f988a739f48c06209d8f68ec93dc24a14a5dfe349892c29bc15d34", checked := Try.checked }
namespace Rows
def none {H : Type} : Left H := { results := [], args := [] }

/-- 'easellaw15.OffsetKeeps': WHATEVER THE INPUT: true; the input reads as it did. -/
def offsetKeepsSpec : ChangeSpec := { name := "offsetKeeps", fn := fun _ => fun
  | [d1, d2, d3, d4, d5] => { results := [.lit (.bool true)], args := [d1, d2, d3, d4, d5] }
  | _ => none }
def offsetKeepsRow : OpenClaim := { program := "ytelfkghcgigbjaa", sum := "e74e70e564f988a739f48c06209d8f68ec93dc24a14a5dfe349892c29bc15d34", func := "easel/easellaw15.OffsetKeeps", spec := "offsetKeeps", apart := false }
def OffsetKeepsSaid : Prop := offsetKeepsRow.holds Try.pinned (OpenSpec.ofChange offsetKeepsSpec)

/-- ITS FALSE NEIGHBOUR: 'it returns false'. Refute it at one input. -/
def offsetKeepsWrong : ChangeSpec := { name := "offsetKeeps", fn := fun _ => fun
  | [d1, d2, d3, d4, d5] => { results := [.lit (.bool false)], args := [d1, d2, d3, d4, d5] }
  | _ => none }
def OffsetKeepsWrongFalsely : Prop := offsetKeepsRow.holds Try.pinned (OpenSpec.ofChange offsetKeepsWrong)

/-- 'easellaw15.OffsetPlays': WHATEVER THE INPUT: true; the input reads as it did. -/
def offsetPlaysSpec : ChangeSpec := { name := "offsetPlays", fn := fun _ => fun
  | [d1, d2, d3] => { results := [.lit (.bool true)], args := [d1, d2, d3] }
  | _ => none }
def offsetPlaysRow : OpenClaim := { program := "ytelfkghcgigbjaa", sum := "e74e70e564f988a739f48c06209d8f68ec93dc24a14a5dfe349892c29bc15d34", func := "easel/easellaw15.OffsetPlays", spec := "offsetPlays", apart := false }
def OffsetPlaysSaid : Prop := offsetPlaysRow.holds Try.pinned (OpenSpec.ofChange offsetPlaysSpec)

/-- ITS FALSE NEIGHBOUR: 'it returns false'. Refute it at one input. -/
def offsetPlaysWrong : ChangeSpec := { name := "offsetPlays", fn := fun _ => fun
  | [d1, d2, d3] => { results := [.lit (.bool false)], args := [d1, d2, d3] }
  | _ => none }
def OffsetPlaysWrongFalsely : Prop := offsetPlaysRow.holds Try.pinned (OpenSpec.ofChange offsetPlaysWrong)

/-- 'easellaw15.OffsetNone': WHATEVER THE INPUT: true; the input reads as it did. -/
def offsetNoneSpec : ChangeSpec := { name := "offsetNone", fn := fun _ => fun
  | [d1, d2] => { results := [.lit (.bool true)], args := [d1, d2] }
  | _ => none }
def offsetNoneRow : OpenClaim := { program := "ytelfkghcgigbjaa", sum := "e74e70e564f988a739f48c06209d8f68ec93dc24a14a5dfe349892c29bc15d34", func := "easel/easellaw15.OffsetNone", spec := "offsetNone", apart := false }
def OffsetNoneSaid : Prop := offsetNoneRow.holds Try.pinned (OpenSpec.ofChange offsetNoneSpec)

/-- ITS FALSE NEIGHBOUR: 'it returns false'. Refute it at one input. -/
def offsetNoneWrong : ChangeSpec := { name := "offsetNone", fn := fun _ => fun
  | [d1, d2] => { results := [.lit (.bool false)], args := [d1, d2] }
  | _ => none }
def OffsetNoneWrongFalsely : Prop := offsetNoneRow.holds Try.pinned (OpenSpec.ofChange offsetNoneWrong)

/-- 'easellaw15.OffsetRings': WHATEVER THE INPUT: true; the input reads as it did. -/
def offsetRingsSpec : ChangeSpec := { name := "offsetRings", fn := fun _ => fun
  | [d1, d2, d3, d4] => { results := [.lit (.bool true)], args := [d1, d2, d3, d4] }
  | _ => none }
def offsetRingsRow : OpenClaim := { program := "ytelfkghcgigbjaa", sum := "e74e70e564f988a739f48c06209d8f68ec93dc24a14a5dfe349892c29bc15d34", func := "easel/easellaw15.OffsetRings", spec := "offsetRings", unfollowed := true, recurses := true, apart := false }
def OffsetRingsSaid : Prop := offsetRingsRow.holds Try.pinned (OpenSpec.ofChange offsetRingsSpec)

/-- ITS FALSE NEIGHBOUR: 'it returns false'. Refute it at one input. -/
def offsetRingsWrong : ChangeSpec := { name := "offsetRings", fn := fun _ => fun
  | [d1, d2, d3, d4] => { results := [.lit (.bool false)], args := [d1, d2, d3, d4] }
  | _ => none }
def OffsetRingsWrongFalsely : Prop := offsetRingsRow.holds Try.pinned (OpenSpec.ofChange offsetRingsWrong)

/-- 'easellaw15.OffsetKnown': WHATEVER THE INPUT: true; the input reads as it did. -/
def offsetKnownSpec : ChangeSpec := { name := "offsetKnown", fn := fun _ => fun
  | [] => { results := [.lit (.bool true)], args := [] }
  | _ => none }
def offsetKnownRow : OpenClaim := { program := "ytelfkghcgigbjaa", sum := "e74e70e564f988a739f48c06209d8f68ec93dc24a14a5dfe349892c29bc15d34", func := "easel/easellaw15.OffsetKnown", spec := "offsetKnown", unfollowed := true, recurses := true, apart := false }
def OffsetKnownSaid : Prop := offsetKnownRow.holds Try.pinned (OpenSpec.ofChange offsetKnownSpec)

/-- ITS FALSE NEIGHBOUR: 'it returns false'. Refute it at one input. -/
def offsetKnownWrong : ChangeSpec := { name := "offsetKnown", fn := fun _ => fun
  | [] => { results := [.lit (.bool false)], args := [] }
  | _ => none }
def OffsetKnownWrongFalsely : Prop := offsetKnownRow.holds Try.pinned (OpenSpec.ofChange offsetKnownWrong)

/- THE SECOND FORM. 'bulk': how many values and letters a reading holds, each counted each time it is reached (what is shared counts as often as it is met; a slice's spare places count too). A statement '..UptoSaid' is the law's where the arguments, and the package variables that the reading takes, are together of bulk at most 1048576: NARROWER than '..Said'. Prove '..Said' where nothing that the law and all that it calls make is longer than what came in: it says more and counts as full. Else prove '..UptoSaid'. A law counts once. -/
mutual
def uptoBulk {H : Type} : DataW H → Nat
  | .lit (.string bytes) => bytes.length + 1
  | .lit _ => 1
  | .nil => 1
  | .ptr d => uptoBulk d + 1
  | .slice elems spare => uptoBulkAll elems + uptoBulkAll spare + 1
  | .agg parts => uptoBulkAll parts + 1
  | .iface _ d => uptoBulk d + 1
  | .map entries => uptoBulkEntries entries + 1
  | .held _ => 1
def uptoBulkAll {H : Type} : List (DataW H) → Nat
  | [] => 0
  | d :: r => uptoBulk d + uptoBulkAll r
def uptoBulkEntries {H : Type} : List (Lit × DataW H) → Nat
  | [] => 0
  | x :: r => uptoBulkEntry x + uptoBulkEntries r
def uptoBulkEntry {H : Type} : Lit × DataW H → Nat
  | (.string bytes, d) => bytes.length + uptoBulk d + 1
  | (_, d) => uptoBulk d + 1
 end
def uptoSmall : (H : Type) → List (DataW H) → Bool := fun _ ds => decide (uptoBulkAll ds ≤ 1048576)
def OpenSpec.upto (s : _root_.Go.ChangeSpec) : _root_.Go.OpenSpec := { _root_.Go.OpenSpec.ofChange s with cond := some uptoSmall }

/-- 'easellaw15.OffsetKeeps', WHERE WHAT IT READS IS OF BULK AT MOST 1048576: true; the input reads as it did. -/
def offsetKeepsUptoRow : OpenClaim := { program := "ytelfkghcgigbjaa", sum := "e74e70e564f988a739f48c06209d8f68ec93dc24a14a5dfe349892c29bc15d34", func := "easel/easellaw15.OffsetKeeps", spec := "offsetKeeps", apart := false, narrowed := true }
def OffsetKeepsUptoSaid : Prop := offsetKeepsUptoRow.holds Try.pinned (OpenSpec.upto offsetKeepsSpec)

/-- 'easellaw15.OffsetPlays', WHERE WHAT IT READS IS OF BULK AT MOST 1048576: true; the input reads as it did. -/
def offsetPlaysUptoRow : OpenClaim := { program := "ytelfkghcgigbjaa", sum := "e74e70e564f988a739f48c06209d8f68ec93dc24a14a5dfe349892c29bc15d34", func := "easel/easellaw15.OffsetPlays", spec := "offsetPlays", apart := false, narrowed := true }
def OffsetPlaysUptoSaid : Prop := offsetPlaysUptoRow.holds Try.pinned (OpenSpec.upto offsetPlaysSpec)

/-- 'easellaw15.OffsetNone', WHERE WHAT IT READS IS OF BULK AT MOST 1048576: true; the input reads as it did. -/
def offsetNoneUptoRow : OpenClaim := { program := "ytelfkghcgigbjaa", sum := "e74e70e564f988a739f48c06209d8f68ec93dc24a14a5dfe349892c29bc15d34", func := "easel/easellaw15.OffsetNone", spec := "offsetNone", apart := false, narrowed := true }
def OffsetNoneUptoSaid : Prop := offsetNoneUptoRow.holds Try.pinned (OpenSpec.upto offsetNoneSpec)

/-- 'easellaw15.OffsetRings', WHERE WHAT IT READS IS OF BULK AT MOST 1048576: true; the input reads as it did. -/
def offsetRingsUptoRow : OpenClaim := { program := "ytelfkghcgigbjaa", sum := "e74e70e564f988a739f48c06209d8f68ec93dc24a14a5dfe349892c29bc15d34", func := "easel/easellaw15.OffsetRings", spec := "offsetRings", unfollowed := true, recurses := true, apart := false, narrowed := true }
def OffsetRingsUptoSaid : Prop := offsetRingsUptoRow.holds Try.pinned (OpenSpec.upto offsetRingsSpec)

/-- 'easellaw15.OffsetKnown', WHERE WHAT IT READS IS OF BULK AT MOST 1048576: true; the input reads as it did. -/
def offsetKnownUptoRow : OpenClaim := { program := "ytelfkghcgigbjaa", sum := "e74e70e564f988a739f48c06209d8f68ec93dc24a14a5dfe349892c29bc15d34", func := "easel/easellaw15.OffsetKnown", spec := "offsetKnown", unfollowed := true, recurses := true, apart := false, narrowed := true }
def OffsetKnownUptoSaid : Prop := offsetKnownUptoRow.holds Try.pinned (OpenSpec.upto offsetKnownSpec)

end Rows
end Go.Proofs.Ytelfkghcgigbjaa
