/-
  No cell of these rows narrows 'for every input' (looked for: loops, veiled, ifaces, maps, wideKeys, modest, calm, conditions, laid).
  DERIVED. THE GIVEN ROWS OF THIS SEAT. 10 by the template 'for every input the law returns true; each argument reads behind the call as it read before'; 0 by the template 'total and deterministic' (their statements: YtjpbimfnppmbcaaTotals.lean).
  GIVEN WITH THE SEED: the statements are not yours to turn. If you find one false, say at which input.
  Laid BY PROGRAM, IN A SANDBOX (cutbox-rows.mjs): the forced cells as the released guide's own fill.sh prints them over the translation d3edefdfd0610225… (all of the seat's roots in one cut). By AI agents, Wed Nov 11 2026. No macro, syntax, notation, axiom, sorry.
-/
import Derived.Test.YtjpbimfnppmbcaaChecked
import GoSem.Claim
import GoSem.ClaimJoined
import GoSem.ClaimMapViews
import Derived.JoinedTies
import Derived.KernelRfl
namespace Go.Proofs.Ytjpbimfnppmbcaa
/- THE CELL 'sum', in the pinned program and in every row, IS THE sha256 OF THE DUMP (.gsa) THAT YtjpbimfnppmbcaaProg.lean LOADS. Nothing in Lean hashes anything: it is a label: what it is worth is what the hold of that sum in a sandbox is worth. -/
noncomputable def Try.pinned : Pinned := { name := "ytjpbimfnppmbcaa", sum := "d3edefdfd0610225873870e36504d54d4edd4827cd8d758b46a1944e4b782dc9", checked := Try.checked }
namespace Rows
def none {H : Type} : Left H := { results := [], args := [] }

/-- 'laws.FnExactFromBits': WHATEVER THE INPUT: true; the input reads as it did. -/
def fnExactFromBitsSpec : ChangeSpec := { name := "fnExactFromBits", fn := fun _ => fun
  | [d] => { results := [.lit (.bool true)], args := [d] }
  | _ => none }
def fnExactFromBitsRow : OpenClaim := { program := "ytjpbimfnppmbcaa", sum := "d3edefdfd0610225873870e36504d54d4edd4827cd8d758b46a1944e4b782dc9", func := "loop.example/g01256/laws.FnExactFromBits", spec := "fnExactFromBits", inPlace := ["math.Float32frombits"], apart := false }
def FnExactFromBitsSaid : Prop := fnExactFromBitsRow.holds Try.pinned (OpenSpec.ofChange fnExactFromBitsSpec)

/-- ITS FALSE NEIGHBOUR: 'it returns false'. Refute it at one input. -/
def fnExactFromBitsWrong : ChangeSpec := { name := "fnExactFromBits", fn := fun _ => fun
  | [d] => { results := [.lit (.bool false)], args := [d] }
  | _ => none }
def FnExactFromBitsWrongFalsely : Prop := fnExactFromBitsRow.holds Try.pinned (OpenSpec.ofChange fnExactFromBitsWrong)

/-- 'laws.FnExactStepApart': WHATEVER THE INPUT: true; the input reads as it did. -/
def fnExactStepApartSpec : ChangeSpec := { name := "fnExactStepApart", fn := fun _ => fun
  | [d1, d2, d3, d4] => { results := [.lit (.bool true)], args := [d1, d2, d3, d4] }
  | _ => none }
def fnExactStepApartRow : OpenClaim := { program := "ytjpbimfnppmbcaa", sum := "d3edefdfd0610225873870e36504d54d4edd4827cd8d758b46a1944e4b782dc9", func := "loop.example/g01256/laws.FnExactStepApart", spec := "fnExactStepApart", unfollowed := true, recurses := true, apart := false }
def FnExactStepApartSaid : Prop := fnExactStepApartRow.holds Try.pinned (OpenSpec.ofChange fnExactStepApartSpec)

/-- ITS FALSE NEIGHBOUR: 'it returns false'. Refute it at one input. -/
def fnExactStepApartWrong : ChangeSpec := { name := "fnExactStepApart", fn := fun _ => fun
  | [d1, d2, d3, d4] => { results := [.lit (.bool false)], args := [d1, d2, d3, d4] }
  | _ => none }
def FnExactStepApartWrongFalsely : Prop := fnExactStepApartRow.holds Try.pinned (OpenSpec.ofChange fnExactStepApartWrong)

/-- 'laws.FnExactFlushNumber': WHATEVER THE INPUT: true; the input reads as it did. -/
def fnExactFlushNumberSpec : ChangeSpec := { name := "fnExactFlushNumber", fn := fun _ => fun
  | [d] => { results := [.lit (.bool true)], args := [d] }
  | _ => none }
def fnExactFlushNumberRow : OpenClaim := { program := "ytjpbimfnppmbcaa", sum := "d3edefdfd0610225873870e36504d54d4edd4827cd8d758b46a1944e4b782dc9", func := "loop.example/g01256/laws.FnExactFlushNumber", spec := "fnExactFlushNumber", inPlace := ["math.Float32bits", "math.Float32frombits", "math.Float64bits", "math.Float64frombits"], apart := false }
def FnExactFlushNumberSaid : Prop := fnExactFlushNumberRow.holds Try.pinned (OpenSpec.ofChange fnExactFlushNumberSpec)

/-- ITS FALSE NEIGHBOUR: 'it returns false'. Refute it at one input. -/
def fnExactFlushNumberWrong : ChangeSpec := { name := "fnExactFlushNumber", fn := fun _ => fun
  | [d] => { results := [.lit (.bool false)], args := [d] }
  | _ => none }
def FnExactFlushNumberWrongFalsely : Prop := fnExactFlushNumberRow.holds Try.pinned (OpenSpec.ofChange fnExactFlushNumberWrong)

/-- 'laws.FnExactRootNumber': WHATEVER THE INPUT: true; the input reads as it did. -/
def fnExactRootNumberSpec : ChangeSpec := { name := "fnExactRootNumber", fn := fun _ => fun
  | [d] => { results := [.lit (.bool true)], args := [d] }
  | _ => none }
def fnExactRootNumberRow : OpenClaim := { program := "ytjpbimfnppmbcaa", sum := "d3edefdfd0610225873870e36504d54d4edd4827cd8d758b46a1944e4b782dc9", func := "loop.example/g01256/laws.FnExactRootNumber", spec := "fnExactRootNumber", inPlace := ["math.sqrt"], apart := false }
def FnExactRootNumberSaid : Prop := fnExactRootNumberRow.holds Try.pinned (OpenSpec.ofChange fnExactRootNumberSpec)

/-- ITS FALSE NEIGHBOUR: 'it returns false'. Refute it at one input. -/
def fnExactRootNumberWrong : ChangeSpec := { name := "fnExactRootNumber", fn := fun _ => fun
  | [d] => { results := [.lit (.bool false)], args := [d] }
  | _ => none }
def FnExactRootNumberWrongFalsely : Prop := fnExactRootNumberRow.holds Try.pinned (OpenSpec.ofChange fnExactRootNumberWrong)

/-- 'laws.FnExactSineTurns': WHATEVER THE INPUT: true; the input reads as it did. -/
def fnExactSineTurnsSpec : ChangeSpec := { name := "fnExactSineTurns", fn := fun _ => fun
  | [d] => { results := [.lit (.bool true)], args := [d] }
  | _ => none }
def fnExactSineTurnsRow : OpenClaim := { program := "ytjpbimfnppmbcaa", sum := "d3edefdfd0610225873870e36504d54d4edd4827cd8d758b46a1944e4b782dc9", func := "loop.example/g01256/laws.FnExactSineTurns", spec := "fnExactSineTurns", inPlace := ["math.Float64frombits", "math.Float64bits", "math.archTrunc"], apart := false }
def FnExactSineTurnsSaid : Prop := fnExactSineTurnsRow.holds Try.pinned (OpenSpec.ofChange fnExactSineTurnsSpec)

/-- ITS FALSE NEIGHBOUR: 'it returns false'. Refute it at one input. -/
def fnExactSineTurnsWrong : ChangeSpec := { name := "fnExactSineTurns", fn := fun _ => fun
  | [d] => { results := [.lit (.bool false)], args := [d] }
  | _ => none }
def FnExactSineTurnsWrongFalsely : Prop := fnExactSineTurnsRow.holds Try.pinned (OpenSpec.ofChange fnExactSineTurnsWrong)

/-- 'laws.FnExactWrapAngle': WHATEVER THE INPUT: true; the input reads as it did. -/
def fnExactWrapAngleSpec : ChangeSpec := { name := "fnExactWrapAngle", fn := fun _ => fun
  | [d] => { results := [.lit (.bool true)], args := [d] }
  | _ => none }
def fnExactWrapAngleRow : OpenClaim := { program := "ytjpbimfnppmbcaa", sum := "d3edefdfd0610225873870e36504d54d4edd4827cd8d758b46a1944e4b782dc9", func := "loop.example/g01256/laws.FnExactWrapAngle", spec := "fnExactWrapAngle", inPlace := ["math.archFloor", "math.Float64bits", "math.Float64frombits", "math.archTrunc"], apart := false }
def FnExactWrapAngleSaid : Prop := fnExactWrapAngleRow.holds Try.pinned (OpenSpec.ofChange fnExactWrapAngleSpec)

/-- ITS FALSE NEIGHBOUR: 'it returns false'. Refute it at one input. -/
def fnExactWrapAngleWrong : ChangeSpec := { name := "fnExactWrapAngle", fn := fun _ => fun
  | [d] => { results := [.lit (.bool false)], args := [d] }
  | _ => none }
def FnExactWrapAngleWrongFalsely : Prop := fnExactWrapAngleRow.holds Try.pinned (OpenSpec.ofChange fnExactWrapAngleWrong)

/-- 'laws.FnExactPhasorOf': WHATEVER THE INPUT: true; the input reads as it did. -/
def fnExactPhasorOfSpec : ChangeSpec := { name := "fnExactPhasorOf", fn := fun _ => fun
  | [d] => { results := [.lit (.bool true)], args := [d] }
  | _ => none }
def fnExactPhasorOfRow : OpenClaim := { program := "ytjpbimfnppmbcaa", sum := "d3edefdfd0610225873870e36504d54d4edd4827cd8d758b46a1944e4b782dc9", func := "loop.example/g01256/laws.FnExactPhasorOf", spec := "fnExactPhasorOf", inPlace := ["math.Float32frombits", "math.Float64frombits", "math.Float64bits", "math.archTrunc"], apart := false }
def FnExactPhasorOfSaid : Prop := fnExactPhasorOfRow.holds Try.pinned (OpenSpec.ofChange fnExactPhasorOfSpec)

/-- ITS FALSE NEIGHBOUR: 'it returns false'. Refute it at one input. -/
def fnExactPhasorOfWrong : ChangeSpec := { name := "fnExactPhasorOf", fn := fun _ => fun
  | [d] => { results := [.lit (.bool false)], args := [d] }
  | _ => none }
def FnExactPhasorOfWrongFalsely : Prop := fnExactPhasorOfRow.holds Try.pinned (OpenSpec.ofChange fnExactPhasorOfWrong)

/-- 'laws.FnExactTenthsOf': WHATEVER THE INPUT: true; the input reads as it did. -/
def fnExactTenthsOfSpec : ChangeSpec := { name := "fnExactTenthsOf", fn := fun _ => fun
  | [d] => { results := [.lit (.bool true)], args := [d] }
  | _ => none }
def fnExactTenthsOfRow : OpenClaim := { program := "ytjpbimfnppmbcaa", sum := "d3edefdfd0610225873870e36504d54d4edd4827cd8d758b46a1944e4b782dc9", func := "loop.example/g01256/laws.FnExactTenthsOf", spec := "fnExactTenthsOf", inPlace := ["math.Float64frombits", "math.Float64bits", "math.archFloor", "math.archTrunc"], unfollowed := true, recurses := true, apart := false }
def FnExactTenthsOfSaid : Prop := fnExactTenthsOfRow.holds Try.pinned (OpenSpec.ofChange fnExactTenthsOfSpec)

/-- ITS FALSE NEIGHBOUR: 'it returns false'. Refute it at one input. -/
def fnExactTenthsOfWrong : ChangeSpec := { name := "fnExactTenthsOf", fn := fun _ => fun
  | [d] => { results := [.lit (.bool false)], args := [d] }
  | _ => none }
def FnExactTenthsOfWrongFalsely : Prop := fnExactTenthsOfRow.holds Try.pinned (OpenSpec.ofChange fnExactTenthsOfWrong)

/-- 'laws.FnExactAngleTurns': WHATEVER THE INPUT: true; the input reads as it did. -/
def fnExactAngleTurnsSpec : ChangeSpec := { name := "fnExactAngleTurns", fn := fun _ => fun
  | [d1, d2] => { results := [.lit (.bool true)], args := [d1, d2] }
  | _ => none }
def fnExactAngleTurnsRow : OpenClaim := { program := "ytjpbimfnppmbcaa", sum := "d3edefdfd0610225873870e36504d54d4edd4827cd8d758b46a1944e4b782dc9", func := "loop.example/g01256/laws.FnExactAngleTurns", spec := "fnExactAngleTurns", inPlace := ["math.Float64frombits", "math.Float64bits", "math.sqrt"], unfollowed := true, recurses := true, apart := false }
def FnExactAngleTurnsSaid : Prop := fnExactAngleTurnsRow.holds Try.pinned (OpenSpec.ofChange fnExactAngleTurnsSpec)

/-- ITS FALSE NEIGHBOUR: 'it returns false'. Refute it at one input. -/
def fnExactAngleTurnsWrong : ChangeSpec := { name := "fnExactAngleTurns", fn := fun _ => fun
  | [d1, d2] => { results := [.lit (.bool false)], args := [d1, d2] }
  | _ => none }
def FnExactAngleTurnsWrongFalsely : Prop := fnExactAngleTurnsRow.holds Try.pinned (OpenSpec.ofChange fnExactAngleTurnsWrong)

/-- 'laws.FnCircles': WHATEVER THE INPUT: true; the input reads as it did. -/
def fnCirclesSpec : ChangeSpec := { name := "fnCircles", fn := fun _ => fun
  | [d1, d2] => { results := [.lit (.bool true)], args := [d1, d2] }
  | _ => none }
def fnCirclesRow : OpenClaim := { program := "ytjpbimfnppmbcaa", sum := "d3edefdfd0610225873870e36504d54d4edd4827cd8d758b46a1944e4b782dc9", func := "loop.example/g01256/laws.FnCircles", spec := "fnCircles", inPlace := ["math.Float64frombits", "math.Float64bits", "math.archTrunc", "math.sqrt", "math.archFloor", "math.Float32bits"], unfollowed := true, recurses := true, apart := false }
def FnCirclesSaid : Prop := fnCirclesRow.holds Try.pinned (OpenSpec.ofChange fnCirclesSpec)

/-- ITS FALSE NEIGHBOUR: 'it returns false'. Refute it at one input. -/
def fnCirclesWrong : ChangeSpec := { name := "fnCircles", fn := fun _ => fun
  | [d1, d2] => { results := [.lit (.bool false)], args := [d1, d2] }
  | _ => none }
def FnCirclesWrongFalsely : Prop := fnCirclesRow.holds Try.pinned (OpenSpec.ofChange fnCirclesWrong)

/- THE SECOND FORM. 'bulk': how many values and letters a reading holds, each counted each time it is reached (what is shared counts as often as it is met; a slice's spare places count too). A statement '..UptoSaid' is the law's where the arguments, and the package variables that the reading takes, are together of bulk at most 1048576: NARROWER than '..Said'. Prove '..Said' where nothing that the law and all that it calls make is longer than what came in: it says more and counts as full. Else prove '..UptoSaid'. A law counts once. -/
mutual
def uptoBulk {H : Type} : DataW H → Nat
  | .lit (.string bytes) => bytes.length + 1
  | .lit _ => 1
  | .nil => 1
  | .ptr d => uptoBulk d + 1
  | .slice elems spare => uptoBulkAll elems + uptoBulkAll spare + 1
  | .agg parts => uptoBulkAll parts + 1
  | .iface _ d => uptoBulk d + 1
  | .map entries => uptoBulkEntries entries + 1
  | .held _ => 1
def uptoBulkAll {H : Type} : List (DataW H) → Nat
  | [] => 0
  | d :: r => uptoBulk d + uptoBulkAll r
def uptoBulkEntries {H : Type} : List (Lit × DataW H) → Nat
  | [] => 0
  | x :: r => uptoBulkEntry x + uptoBulkEntries r
def uptoBulkEntry {H : Type} : Lit × DataW H → Nat
  | (.string bytes, d) => bytes.length + uptoBulk d + 1
  | (_, d) => uptoBulk d + 1
 end
def uptoSmall : (H : Type) → List (DataW H) → Bool := fun _ ds => decide (uptoBulkAll ds ≤ 1048576)
def OpenSpec.upto (s : _root_.Go.ChangeSpec) : _root_.Go.OpenSpec := { _root_.Go.OpenSpec.ofChange s with cond := some uptoSmall }

/-- 'laws.FnExactFromBits', WHERE WHAT IT READS IS OF BULK AT MOST 1048576: true; the input reads as it did. -/
def fnExactFromBitsUptoRow : OpenClaim := { program := "ytjpbimfnppmbcaa", sum := "d3edefdfd0610225873870e36504d54d4edd4827cd8d758b46a1944e4b782dc9", func := "loop.example/g01256/laws.FnExactFromBits", spec := "fnExactFromBits", inPlace := ["math.Float32frombits"], apart := false, narrowed := true }
def FnExactFromBitsUptoSaid : Prop := fnExactFromBitsUptoRow.holds Try.pinned (OpenSpec.upto fnExactFromBitsSpec)

/-- 'laws.FnExactStepApart', WHERE WHAT IT READS IS OF BULK AT MOST 1048576: true; the input reads as it did. -/
def fnExactStepApartUptoRow : OpenClaim := { program := "ytjpbimfnppmbcaa", sum := "d3edefdfd0610225873870e36504d54d4edd4827cd8d758b46a1944e4b782dc9", func := "loop.example/g01256/laws.FnExactStepApart", spec := "fnExactStepApart", unfollowed := true, recurses := true, apart := false, narrowed := true }
def FnExactStepApartUptoSaid : Prop := fnExactStepApartUptoRow.holds Try.pinned (OpenSpec.upto fnExactStepApartSpec)

/-- 'laws.FnExactFlushNumber', WHERE WHAT IT READS IS OF BULK AT MOST 1048576: true; the input reads as it did. -/
def fnExactFlushNumberUptoRow : OpenClaim := { program := "ytjpbimfnppmbcaa", sum := "d3edefdfd0610225873870e36504d54d4edd4827cd8d758b46a1944e4b782dc9", func := "loop.example/g01256/laws.FnExactFlushNumber", spec := "fnExactFlushNumber", inPlace := ["math.Float32bits", "math.Float32frombits", "math.Float64bits", "math.Float64frombits"], apart := false, narrowed := true }
def FnExactFlushNumberUptoSaid : Prop := fnExactFlushNumberUptoRow.holds Try.pinned (OpenSpec.upto fnExactFlushNumberSpec)

/-- 'laws.FnExactRootNumber', WHERE WHAT IT READS IS OF BULK AT MOST 1048576: true; the input reads as it did. -/
def fnExactRootNumberUptoRow : OpenClaim := { program := "ytjpbimfnppmbcaa", sum := "d3edefdfd0610225873870e36504d54d4edd4827cd8d758b46a1944e4b782dc9", func := "loop.example/g01256/laws.FnExactRootNumber", spec := "fnExactRootNumber", inPlace := ["math.sqrt"], apart := false, narrowed := true }
def FnExactRootNumberUptoSaid : Prop := fnExactRootNumberUptoRow.holds Try.pinned (OpenSpec.upto fnExactRootNumberSpec)

/-- 'laws.FnExactSineTurns', WHERE WHAT IT READS IS OF BULK AT MOST 1048576: true; the input reads as it did. -/
def fnExactSineTurnsUptoRow : OpenClaim := { program := "ytjpbimfnppmbcaa", sum := "d3edefdfd0610225873870e36504d54d4edd4827cd8d758b46a1944e4b782dc9", func := "loop.example/g01256/laws.FnExactSineTurns", spec := "fnExactSineTurns", inPlace := ["math.Float64frombits", "math.Float64bits", "math.archTrunc"], apart := false, narrowed := true }
def FnExactSineTurnsUptoSaid : Prop := fnExactSineTurnsUptoRow.holds Try.pinned (OpenSpec.upto fnExactSineTurnsSpec)

/-- 'laws.FnExactWrapAngle', WHERE WHAT IT READS IS OF BULK AT MOST 1048576: true; the input reads as it did. -/
def fnExactWrapAngleUptoRow : OpenClaim := { program := "ytjpbimfnppmbcaa", sum := "d3edefdfd0610225873870e36504d54d4edd4827cd8d758b46a1944e4b782dc9", func := "loop.example/g01256/laws.FnExactWrapAngle", spec := "fnExactWrapAngle", inPlace := ["math.archFloor", "math.Float64bits", "math.Float64frombits", "math.archTrunc"], apart := false, narrowed := true }
def FnExactWrapAngleUptoSaid : Prop := fnExactWrapAngleUptoRow.holds Try.pinned (OpenSpec.upto fnExactWrapAngleSpec)

/-- 'laws.FnExactPhasorOf', WHERE WHAT IT READS IS OF BULK AT MOST 1048576: true; the input reads as it did. -/
def fnExactPhasorOfUptoRow : OpenClaim := { program := "ytjpbimfnppmbcaa", sum := "d3edefdfd0610225873870e36504d54d4edd4827cd8d758b46a1944e4b782dc9", func := "loop.example/g01256/laws.FnExactPhasorOf", spec := "fnExactPhasorOf", inPlace := ["math.Float32frombits", "math.Float64frombits", "math.Float64bits", "math.archTrunc"], apart := false, narrowed := true }
def FnExactPhasorOfUptoSaid : Prop := fnExactPhasorOfUptoRow.holds Try.pinned (OpenSpec.upto fnExactPhasorOfSpec)

/-- 'laws.FnExactTenthsOf', WHERE WHAT IT READS IS OF BULK AT MOST 1048576: true; the input reads as it did. -/
def fnExactTenthsOfUptoRow : OpenClaim := { program := "ytjpbimfnppmbcaa", sum := "d3edefdfd0610225873870e36504d54d4edd4827cd8d758b46a1944e4b782dc9", func := "loop.example/g01256/laws.FnExactTenthsOf", spec := "fnExactTenthsOf", inPlace := ["math.Float64frombits", "math.Float64bits", "math.archFloor", "math.archTrunc"], unfollowed := true, recurses := true, apart := false, narrowed := true }
def FnExactTenthsOfUptoSaid : Prop := fnExactTenthsOfUptoRow.holds Try.pinned (OpenSpec.upto fnExactTenthsOfSpec)

/-- 'laws.FnExactAngleTurns', WHERE WHAT IT READS IS OF BULK AT MOST 1048576: true; the input reads as it did. -/
def fnExactAngleTurnsUptoRow : OpenClaim := { program := "ytjpbimfnppmbcaa", sum := "d3edefdfd0610225873870e36504d54d4edd4827cd8d758b46a1944e4b782dc9", func := "loop.example/g01256/laws.FnExactAngleTurns", spec := "fnExactAngleTurns", inPlace := ["math.Float64frombits", "math.Float64bits", "math.sqrt"], unfollowed := true, recurses := true, apart := false, narrowed := true }
def FnExactAngleTurnsUptoSaid : Prop := fnExactAngleTurnsUptoRow.holds Try.pinned (OpenSpec.upto fnExactAngleTurnsSpec)

/-- 'laws.FnCircles', WHERE WHAT IT READS IS OF BULK AT MOST 1048576: true; the input reads as it did. -/
def fnCirclesUptoRow : OpenClaim := { program := "ytjpbimfnppmbcaa", sum := "d3edefdfd0610225873870e36504d54d4edd4827cd8d758b46a1944e4b782dc9", func := "loop.example/g01256/laws.FnCircles", spec := "fnCircles", inPlace := ["math.Float64frombits", "math.Float64bits", "math.archTrunc", "math.sqrt", "math.archFloor", "math.Float32bits"], unfollowed := true, recurses := true, apart := false, narrowed := true }
def FnCirclesUptoSaid : Prop := fnCirclesUptoRow.holds Try.pinned (OpenSpec.upto fnCirclesSpec)

end Rows
end Go.Proofs.Ytjpbimfnppmbcaa
