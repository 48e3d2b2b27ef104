/-
  No cell of these rows narrows 'for every input' (looked for: loops, veiled, ifaces, maps, wideKeys, modest, calm, conditions, laid).
  DERIVED. THE GIVEN ROWS OF THIS SEAT. 5 by the template 'for every input the law returns true; each argument reads behind the call as it read before'; 0 by the template 'total and deterministic' (their statements: YtnodnngakopooaaTotals.lean).
  GIVEN WITH THE SEED: the statements are not yours to turn. If you find one false, say at which input.
  Laid BY PROGRAM, IN A SANDBOX (cutbox-rows.mjs): the forced cells as the released guide's own fill.sh prints them over the translation ff2a0c41cb403f28… (all of the seat's roots in one cut). By AI agents, Wed Nov 11 2026. No macro, syntax, notation, axiom, sorry.
-/
import Derived.Test.YtnodnngakopooaaChecked
import GoSem.Claim
import GoSem.ClaimJoined
import GoSem.ClaimMapViews
import Derived.JoinedTies
import Derived.KernelRfl
namespace Go.Proofs.Ytnodnngakopooaa
/- THE CELL 'sum', in the pinned program and in every row, IS THE sha256 OF THE DUMP (.gsa) THAT YtnodnngakopooaaProg.lean LOADS. Nothing in Lean hashes anything: it is a label: what it is worth is what the hold of that sum in a sandbox is worth. -/
noncomputable def Try.pinned : Pinned := { name := "ytnodnngakopooaa", sum := "ff2a0c41cb403f281a968bac98797571ce5853b1408c2cefe42ca551ae996280", checked := Try.checked }
namespace Rows
def none {H : Type} : Left H := { results := [], args := [] }

/-- 'easellaw16.LayerDecodes': WHATEVER THE INPUT: true; the input reads as it did. -/
def layerDecodesSpec : ChangeSpec := { name := "layerDecodes", fn := fun _ => fun
  | [d] => { results := [.lit (.bool true)], args := [d] }
  | _ => none }
def layerDecodesRow : OpenClaim := { program := "ytnodnngakopooaa", sum := "ff2a0c41cb403f281a968bac98797571ce5853b1408c2cefe42ca551ae996280", func := "easel/easellaw16.LayerDecodes", spec := "layerDecodes", unfollowed := true, recurses := true, apart := false }
def LayerDecodesSaid : Prop := layerDecodesRow.holds Try.pinned (OpenSpec.ofChange layerDecodesSpec)

/-- ITS FALSE NEIGHBOUR: 'it returns false'. Refute it at one input. -/
def layerDecodesWrong : ChangeSpec := { name := "layerDecodes", fn := fun _ => fun
  | [d] => { results := [.lit (.bool false)], args := [d] }
  | _ => none }
def LayerDecodesWrongFalsely : Prop := layerDecodesRow.holds Try.pinned (OpenSpec.ofChange layerDecodesWrong)

/-- 'easellaw16.LayerRises': WHATEVER THE INPUT: true; the input reads as it did. -/
def layerRisesSpec : ChangeSpec := { name := "layerRises", fn := fun _ => fun
  | [d] => { results := [.lit (.bool true)], args := [d] }
  | _ => none }
def layerRisesRow : OpenClaim := { program := "ytnodnngakopooaa", sum := "ff2a0c41cb403f281a968bac98797571ce5853b1408c2cefe42ca551ae996280", func := "easel/easellaw16.LayerRises", spec := "layerRises", unfollowed := true, recurses := true, apart := false }
def LayerRisesSaid : Prop := layerRisesRow.holds Try.pinned (OpenSpec.ofChange layerRisesSpec)

/-- ITS FALSE NEIGHBOUR: 'it returns false'. Refute it at one input. -/
def layerRisesWrong : ChangeSpec := { name := "layerRises", fn := fun _ => fun
  | [d] => { results := [.lit (.bool false)], args := [d] }
  | _ => none }
def LayerRisesWrongFalsely : Prop := layerRisesRow.holds Try.pinned (OpenSpec.ofChange layerRisesWrong)

/-- 'easellaw16.LayerPlays': WHATEVER THE INPUT: true; the input reads as it did. -/
def layerPlaysSpec : ChangeSpec := { name := "layerPlays", fn := fun _ => fun
  | [d] => { results := [.lit (.bool true)], args := [d] }
  | _ => none }
def layerPlaysRow : OpenClaim := { program := "ytnodnngakopooaa", sum := "ff2a0c41cb403f281a968bac98797571ce5853b1408c2cefe42ca551ae996280", func := "easel/easellaw16.LayerPlays", spec := "layerPlays", unfollowed := true, recurses := true, apart := false }
def LayerPlaysSaid : Prop := layerPlaysRow.holds Try.pinned (OpenSpec.ofChange layerPlaysSpec)

/-- ITS FALSE NEIGHBOUR: 'it returns false'. Refute it at one input. -/
def layerPlaysWrong : ChangeSpec := { name := "layerPlays", fn := fun _ => fun
  | [d] => { results := [.lit (.bool false)], args := [d] }
  | _ => none }
def LayerPlaysWrongFalsely : Prop := layerPlaysRow.holds Try.pinned (OpenSpec.ofChange layerPlaysWrong)

/-- 'easellaw16.LayerNone': WHATEVER THE INPUT: true; the input reads as it did. -/
def layerNoneSpec : ChangeSpec := { name := "layerNone", fn := fun _ => fun
  | [d1, d2] => { results := [.lit (.bool true)], args := [d1, d2] }
  | _ => none }
def layerNoneRow : OpenClaim := { program := "ytnodnngakopooaa", sum := "ff2a0c41cb403f281a968bac98797571ce5853b1408c2cefe42ca551ae996280", func := "easel/easellaw16.LayerNone", spec := "layerNone", unfollowed := true, recurses := true, apart := false }
def LayerNoneSaid : Prop := layerNoneRow.holds Try.pinned (OpenSpec.ofChange layerNoneSpec)

/-- ITS FALSE NEIGHBOUR: 'it returns false'. Refute it at one input. -/
def layerNoneWrong : ChangeSpec := { name := "layerNone", fn := fun _ => fun
  | [d1, d2] => { results := [.lit (.bool false)], args := [d1, d2] }
  | _ => none }
def LayerNoneWrongFalsely : Prop := layerNoneRow.holds Try.pinned (OpenSpec.ofChange layerNoneWrong)

/-- 'easellaw16.LayerKnown': WHATEVER THE INPUT: true; the input reads as it did. -/
def layerKnownSpec : ChangeSpec := { name := "layerKnown", fn := fun _ => fun
  | [] => { results := [.lit (.bool true)], args := [] }
  | _ => none }
def layerKnownRow : OpenClaim := { program := "ytnodnngakopooaa", sum := "ff2a0c41cb403f281a968bac98797571ce5853b1408c2cefe42ca551ae996280", func := "easel/easellaw16.LayerKnown", spec := "layerKnown", unfollowed := true, recurses := true, apart := false }
def LayerKnownSaid : Prop := layerKnownRow.holds Try.pinned (OpenSpec.ofChange layerKnownSpec)

/-- ITS FALSE NEIGHBOUR: 'it returns false'. Refute it at one input. -/
def layerKnownWrong : ChangeSpec := { name := "layerKnown", fn := fun _ => fun
  | [] => { results := [.lit (.bool false)], args := [] }
  | _ => none }
def LayerKnownWrongFalsely : Prop := layerKnownRow.holds Try.pinned (OpenSpec.ofChange layerKnownWrong)

/- THE SECOND FORM. 'bulk': how many values and letters a reading holds, each counted each time it is reached (what is shared counts as often as it is met; a slice's spare places count too). A statement '..UptoSaid' is the law's where the arguments, and the package variables that the reading takes, are together of bulk at most 1048576: NARROWER than '..Said'. Prove '..Said' where nothing that the law and all that it calls make is longer than what came in: it says more and counts as full. Else prove '..UptoSaid'. A law counts once. -/
mutual
def uptoBulk {H : Type} : DataW H → Nat
  | .lit (.string bytes) => bytes.length + 1
  | .lit _ => 1
  | .nil => 1
  | .ptr d => uptoBulk d + 1
  | .slice elems spare => uptoBulkAll elems + uptoBulkAll spare + 1
  | .agg parts => uptoBulkAll parts + 1
  | .iface _ d => uptoBulk d + 1
  | .map entries => uptoBulkEntries entries + 1
  | .held _ => 1
def uptoBulkAll {H : Type} : List (DataW H) → Nat
  | [] => 0
  | d :: r => uptoBulk d + uptoBulkAll r
def uptoBulkEntries {H : Type} : List (Lit × DataW H) → Nat
  | [] => 0
  | x :: r => uptoBulkEntry x + uptoBulkEntries r
def uptoBulkEntry {H : Type} : Lit × DataW H → Nat
  | (.string bytes, d) => bytes.length + uptoBulk d + 1
  | (_, d) => uptoBulk d + 1
 end
def uptoSmall : (H : Type) → List (DataW H) → Bool := fun _ ds => decide (uptoBulkAll ds ≤ 1048576)
def OpenSpec.upto (s : _root_.Go.ChangeSpec) : _root_.Go.OpenSpec := { _root_.Go.OpenSpec.ofChange s with cond := some uptoSmall }

/-- 'easellaw16.LayerDecodes', WHERE WHAT IT READS IS OF BULK AT MOST 1048576: true; the input reads as it did. -/
def layerDecodesUptoRow : OpenClaim := { program := "ytnodnngakopooaa", sum := "ff2a0c41cb403f281a968bac98797571ce5853b1408c2cefe42ca551ae996280", func := "easel/easellaw16.LayerDecodes", spec := "layerDecodes", unfollowed := true, recurses := true, apart := false, narrowed := true }
def LayerDecodesUptoSaid : Prop := layerDecodesUptoRow.holds Try.pinned (OpenSpec.upto layerDecodesSpec)

/-- 'easellaw16.LayerRises', WHERE WHAT IT READS IS OF BULK AT MOST 1048576: true; the input reads as it did. -/
def layerRisesUptoRow : OpenClaim := { program := "ytnodnngakopooaa", sum := "ff2a0c41cb403f281a968bac98797571ce5853b1408c2cefe42ca551ae996280", func := "easel/easellaw16.LayerRises", spec := "layerRises", unfollowed := true, recurses := true, apart := false, narrowed := true }
def LayerRisesUptoSaid : Prop := layerRisesUptoRow.holds Try.pinned (OpenSpec.upto layerRisesSpec)

/-- 'easellaw16.LayerPlays', WHERE WHAT IT READS IS OF BULK AT MOST 1048576: true; the input reads as it did. -/
def layerPlaysUptoRow : OpenClaim := { program := "ytnodnngakopooaa", sum := "ff2a0c41cb403f281a968bac98797571ce5853b1408c2cefe42ca551ae996280", func := "easel/easellaw16.LayerPlays", spec := "layerPlays", unfollowed := true, recurses := true, apart := false, narrowed := true }
def LayerPlaysUptoSaid : Prop := layerPlaysUptoRow.holds Try.pinned (OpenSpec.upto layerPlaysSpec)

/-- 'easellaw16.LayerNone', WHERE WHAT IT READS IS OF BULK AT MOST 1048576: true; the input reads as it did. -/
def layerNoneUptoRow : OpenClaim := { program := "ytnodnngakopooaa", sum := "ff2a0c41cb403f281a968bac98797571ce5853b1408c2cefe42ca551ae996280", func := "easel/easellaw16.LayerNone", spec := "layerNone", unfollowed := true, recurses := true, apart := false, narrowed := true }
def LayerNoneUptoSaid : Prop := layerNoneUptoRow.holds Try.pinned (OpenSpec.upto layerNoneSpec)

/-- 'easellaw16.LayerKnown', WHERE WHAT IT READS IS OF BULK AT MOST 1048576: true; the input reads as it did. -/
def layerKnownUptoRow : OpenClaim := { program := "ytnodnngakopooaa", sum := "ff2a0c41cb403f281a968bac98797571ce5853b1408c2cefe42ca551ae996280", func := "easel/easellaw16.LayerKnown", spec := "layerKnown", unfollowed := true, recurses := true, apart := false, narrowed := true }
def LayerKnownUptoSaid : Prop := layerKnownUptoRow.holds Try.pinned (OpenSpec.upto layerKnownSpec)

end Rows
end Go.Proofs.Ytnodnngakopooaa
