/-
  No cell of these rows narrows 'for every input' (looked for: loops, veiled, ifaces, maps, wideKeys, modest, calm, conditions, laid).
  DERIVED. THE GIVEN ROWS OF THIS SEAT. 14 by the template 'for every input the law returns true; each argument reads behind the call as it read before'; 0 by the template 'total and deterministic' (their statements: YtdkgdinbglkjcaaTotals.lean).
  GIVEN WITH THE SEED: the statements are not yours to turn. If you find one false, say at which input.
  Laid BY PROGRAM, IN A SANDBOX (cutbox-rows.mjs): the forced cells as the released guide's own fill.sh prints them over the translation 9bb442a124c4645f… (all of the seat's roots in one cut). By AI agents, Wed Nov 11 2026. No macro, syntax, notation, axiom, sorry.
-/
import Derived.Test.YtdkgdinbglkjcaaChecked
import GoSem.Claim
import GoSem.ClaimJoined
import GoSem.ClaimMapViews
import Derived.JoinedTies
import Derived.KernelRfl
namespace Go.Proofs.Ytdkgdinbglkjcaa
/- THE CELL 'sum', in the pinned program and in every row, IS THE sha256 OF THE DUMP (.gsa) THAT YtdkgdinbglkjcaaProg.lean LOADS. Nothing in Lean hashes anything: it is a label: what it is worth is what the hold of that sum in a sandbox is worth. -/
noncomputable def Try.pinned : Pinned := { name := "ytdkgdinbglkjcaa", sum := "9bb442a124c4645f47296e41db9b7dadaf53f5cc282f7baf8b7bad5c7fc5782e", checked := Try.checked }
namespace Rows
def none {H : Type} : Left H := { results := [], args := [] }

/-- 'laws.FnExactDotNumbers': WHATEVER THE INPUT: true; the input reads as it did. -/
def fnExactDotNumbersSpec : ChangeSpec := { name := "fnExactDotNumbers", fn := fun _ => fun
  | [d1, d2] => { results := [.lit (.bool true)], args := [d1, d2] }
  | _ => none }
def fnExactDotNumbersRow : OpenClaim := { program := "ytdkgdinbglkjcaa", sum := "9bb442a124c4645f47296e41db9b7dadaf53f5cc282f7baf8b7bad5c7fc5782e", func := "loop.example/g01256/laws.FnExactDotNumbers", spec := "fnExactDotNumbers", apart := false }
def FnExactDotNumbersSaid : Prop := fnExactDotNumbersRow.holds Try.pinned (OpenSpec.ofChange fnExactDotNumbersSpec)

/-- ITS FALSE NEIGHBOUR: 'it returns false'. Refute it at one input. -/
def fnExactDotNumbersWrong : ChangeSpec := { name := "fnExactDotNumbers", fn := fun _ => fun
  | [d1, d2] => { results := [.lit (.bool false)], args := [d1, d2] }
  | _ => none }
def FnExactDotNumbersWrongFalsely : Prop := fnExactDotNumbersRow.holds Try.pinned (OpenSpec.ofChange fnExactDotNumbersWrong)

/-- 'laws.FnExactSumNumbers': WHATEVER THE INPUT: true; the input reads as it did. -/
def fnExactSumNumbersSpec : ChangeSpec := { name := "fnExactSumNumbers", fn := fun _ => fun
  | [d] => { results := [.lit (.bool true)], args := [d] }
  | _ => none }
def fnExactSumNumbersRow : OpenClaim := { program := "ytdkgdinbglkjcaa", sum := "9bb442a124c4645f47296e41db9b7dadaf53f5cc282f7baf8b7bad5c7fc5782e", func := "loop.example/g01256/laws.FnExactSumNumbers", spec := "fnExactSumNumbers", apart := false }
def FnExactSumNumbersSaid : Prop := fnExactSumNumbersRow.holds Try.pinned (OpenSpec.ofChange fnExactSumNumbersSpec)

/-- ITS FALSE NEIGHBOUR: 'it returns false'. Refute it at one input. -/
def fnExactSumNumbersWrong : ChangeSpec := { name := "fnExactSumNumbers", fn := fun _ => fun
  | [d] => { results := [.lit (.bool false)], args := [d] }
  | _ => none }
def FnExactSumNumbersWrongFalsely : Prop := fnExactSumNumbersRow.holds Try.pinned (OpenSpec.ofChange fnExactSumNumbersWrong)

/-- 'laws.FnExactSameProfile': WHATEVER THE INPUT: true; the input reads as it did. -/
def fnExactSameProfileSpec : ChangeSpec := { name := "fnExactSameProfile", fn := fun _ => fun
  | [d1, d2] => { results := [.lit (.bool true)], args := [d1, d2] }
  | _ => none }
def fnExactSameProfileRow : OpenClaim := { program := "ytdkgdinbglkjcaa", sum := "9bb442a124c4645f47296e41db9b7dadaf53f5cc282f7baf8b7bad5c7fc5782e", func := "loop.example/g01256/laws.FnExactSameProfile", spec := "fnExactSameProfile", inPlace := ["math.Float32bits", "math.Float64bits"], unfollowed := true, recurses := true, apart := false }
def FnExactSameProfileSaid : Prop := fnExactSameProfileRow.holds Try.pinned (OpenSpec.ofChange fnExactSameProfileSpec)

/-- ITS FALSE NEIGHBOUR: 'it returns false'. Refute it at one input. -/
def fnExactSameProfileWrong : ChangeSpec := { name := "fnExactSameProfile", fn := fun _ => fun
  | [d1, d2] => { results := [.lit (.bool false)], args := [d1, d2] }
  | _ => none }
def FnExactSameProfileWrongFalsely : Prop := fnExactSameProfileRow.holds Try.pinned (OpenSpec.ofChange fnExactSameProfileWrong)

/-- 'laws.FnExactValidProfile': WHATEVER THE INPUT: true; the input reads as it did. -/
def fnExactValidProfileSpec : ChangeSpec := { name := "fnExactValidProfile", fn := fun _ => fun
  | [d] => { results := [.lit (.bool true)], args := [d] }
  | _ => none }
def fnExactValidProfileRow : OpenClaim := { program := "ytdkgdinbglkjcaa", sum := "9bb442a124c4645f47296e41db9b7dadaf53f5cc282f7baf8b7bad5c7fc5782e", func := "loop.example/g01256/laws.FnExactValidProfile", spec := "fnExactValidProfile", unfollowed := true, recurses := true, apart := false }
def FnExactValidProfileSaid : Prop := fnExactValidProfileRow.holds Try.pinned (OpenSpec.ofChange fnExactValidProfileSpec)

/-- ITS FALSE NEIGHBOUR: 'it returns false'. Refute it at one input. -/
def fnExactValidProfileWrong : ChangeSpec := { name := "fnExactValidProfile", fn := fun _ => fun
  | [d] => { results := [.lit (.bool false)], args := [d] }
  | _ => none }
def FnExactValidProfileWrongFalsely : Prop := fnExactValidProfileRow.holds Try.pinned (OpenSpec.ofChange fnExactValidProfileWrong)

/-- 'laws.FnExactRunApart': WHATEVER THE INPUT: true; the input reads as it did. -/
def fnExactRunApartSpec : ChangeSpec := { name := "fnExactRunApart", fn := fun _ => fun
  | [d1, d2, d3] => { results := [.lit (.bool true)], args := [d1, d2, d3] }
  | _ => none }
def fnExactRunApartRow : OpenClaim := { program := "ytdkgdinbglkjcaa", sum := "9bb442a124c4645f47296e41db9b7dadaf53f5cc282f7baf8b7bad5c7fc5782e", func := "loop.example/g01256/laws.FnExactRunApart", spec := "fnExactRunApart", unfollowed := true, recurses := true, apart := false }
def FnExactRunApartSaid : Prop := fnExactRunApartRow.holds Try.pinned (OpenSpec.ofChange fnExactRunApartSpec)

/-- ITS FALSE NEIGHBOUR: 'it returns false'. Refute it at one input. -/
def fnExactRunApartWrong : ChangeSpec := { name := "fnExactRunApart", fn := fun _ => fun
  | [d1, d2, d3] => { results := [.lit (.bool false)], args := [d1, d2, d3] }
  | _ => none }
def FnExactRunApartWrongFalsely : Prop := fnExactRunApartRow.holds Try.pinned (OpenSpec.ofChange fnExactRunApartWrong)

/-- 'laws.FnExactStallOf': WHATEVER THE INPUT: true; the input reads as it did. -/
def fnExactStallOfSpec : ChangeSpec := { name := "fnExactStallOf", fn := fun _ => fun
  | [d] => { results := [.lit (.bool true)], args := [d] }
  | _ => none }
def fnExactStallOfRow : OpenClaim := { program := "ytdkgdinbglkjcaa", sum := "9bb442a124c4645f47296e41db9b7dadaf53f5cc282f7baf8b7bad5c7fc5782e", func := "loop.example/g01256/laws.FnExactStallOf", spec := "fnExactStallOf", unfollowed := true, recurses := true, apart := false }
def FnExactStallOfSaid : Prop := fnExactStallOfRow.holds Try.pinned (OpenSpec.ofChange fnExactStallOfSpec)

/-- ITS FALSE NEIGHBOUR: 'it returns false'. Refute it at one input. -/
def fnExactStallOfWrong : ChangeSpec := { name := "fnExactStallOf", fn := fun _ => fun
  | [d] => { results := [.lit (.bool false)], args := [d] }
  | _ => none }
def FnExactStallOfWrongFalsely : Prop := fnExactStallOfRow.holds Try.pinned (OpenSpec.ofChange fnExactStallOfWrong)

/-- 'laws.FnExactBestGlide': WHATEVER THE INPUT: true; the input reads as it did. -/
def fnExactBestGlideSpec : ChangeSpec := { name := "fnExactBestGlide", fn := fun _ => fun
  | [d] => { results := [.lit (.bool true)], args := [d] }
  | _ => none }
def fnExactBestGlideRow : OpenClaim := { program := "ytdkgdinbglkjcaa", sum := "9bb442a124c4645f47296e41db9b7dadaf53f5cc282f7baf8b7bad5c7fc5782e", func := "loop.example/g01256/laws.FnExactBestGlide", spec := "fnExactBestGlide", unfollowed := true, recurses := true, apart := false }
def FnExactBestGlideSaid : Prop := fnExactBestGlideRow.holds Try.pinned (OpenSpec.ofChange fnExactBestGlideSpec)

/-- ITS FALSE NEIGHBOUR: 'it returns false'. Refute it at one input. -/
def fnExactBestGlideWrong : ChangeSpec := { name := "fnExactBestGlide", fn := fun _ => fun
  | [d] => { results := [.lit (.bool false)], args := [d] }
  | _ => none }
def FnExactBestGlideWrongFalsely : Prop := fnExactBestGlideRow.holds Try.pinned (OpenSpec.ofChange fnExactBestGlideWrong)

/-- 'laws.FnExactLiftArea': WHATEVER THE INPUT: true; the input reads as it did. -/
def fnExactLiftAreaSpec : ChangeSpec := { name := "fnExactLiftArea", fn := fun _ => fun
  | [d] => { results := [.lit (.bool true)], args := [d] }
  | _ => none }
def fnExactLiftAreaRow : OpenClaim := { program := "ytdkgdinbglkjcaa", sum := "9bb442a124c4645f47296e41db9b7dadaf53f5cc282f7baf8b7bad5c7fc5782e", func := "loop.example/g01256/laws.FnExactLiftArea", spec := "fnExactLiftArea", unfollowed := true, recurses := true, apart := false }
def FnExactLiftAreaSaid : Prop := fnExactLiftAreaRow.holds Try.pinned (OpenSpec.ofChange fnExactLiftAreaSpec)

/-- ITS FALSE NEIGHBOUR: 'it returns false'. Refute it at one input. -/
def fnExactLiftAreaWrong : ChangeSpec := { name := "fnExactLiftArea", fn := fun _ => fun
  | [d] => { results := [.lit (.bool false)], args := [d] }
  | _ => none }
def FnExactLiftAreaWrongFalsely : Prop := fnExactLiftAreaRow.holds Try.pinned (OpenSpec.ofChange fnExactLiftAreaWrong)

/-- 'laws.FnExactZeroLift': WHATEVER THE INPUT: true; the input reads as it did. -/
def fnExactZeroLiftSpec : ChangeSpec := { name := "fnExactZeroLift", fn := fun _ => fun
  | [d] => { results := [.lit (.bool true)], args := [d] }
  | _ => none }
def fnExactZeroLiftRow : OpenClaim := { program := "ytdkgdinbglkjcaa", sum := "9bb442a124c4645f47296e41db9b7dadaf53f5cc282f7baf8b7bad5c7fc5782e", func := "loop.example/g01256/laws.FnExactZeroLift", spec := "fnExactZeroLift", unfollowed := true, recurses := true, apart := false }
def FnExactZeroLiftSaid : Prop := fnExactZeroLiftRow.holds Try.pinned (OpenSpec.ofChange fnExactZeroLiftSpec)

/-- ITS FALSE NEIGHBOUR: 'it returns false'. Refute it at one input. -/
def fnExactZeroLiftWrong : ChangeSpec := { name := "fnExactZeroLift", fn := fun _ => fun
  | [d] => { results := [.lit (.bool false)], args := [d] }
  | _ => none }
def FnExactZeroLiftWrongFalsely : Prop := fnExactZeroLiftRow.holds Try.pinned (OpenSpec.ofChange fnExactZeroLiftWrong)

/-- 'laws.FnExactFitDrags': WHATEVER THE INPUT: true; the input reads as it did. -/
def fnExactFitDragsSpec : ChangeSpec := { name := "fnExactFitDrags", fn := fun _ => fun
  | [d1, d2, d3] => { results := [.lit (.bool true)], args := [d1, d2, d3] }
  | _ => none }
def fnExactFitDragsRow : OpenClaim := { program := "ytdkgdinbglkjcaa", sum := "9bb442a124c4645f47296e41db9b7dadaf53f5cc282f7baf8b7bad5c7fc5782e", func := "loop.example/g01256/laws.FnExactFitDrags", spec := "fnExactFitDrags", unfollowed := true, recurses := true, apart := false }
def FnExactFitDragsSaid : Prop := fnExactFitDragsRow.holds Try.pinned (OpenSpec.ofChange fnExactFitDragsSpec)

/-- ITS FALSE NEIGHBOUR: 'it returns false'. Refute it at one input. -/
def fnExactFitDragsWrong : ChangeSpec := { name := "fnExactFitDrags", fn := fun _ => fun
  | [d1, d2, d3] => { results := [.lit (.bool false)], args := [d1, d2, d3] }
  | _ => none }
def FnExactFitDragsWrongFalsely : Prop := fnExactFitDragsRow.holds Try.pinned (OpenSpec.ofChange fnExactFitDragsWrong)

/-- 'laws.FnExactMirrorProfile': WHATEVER THE INPUT: true; the input reads as it did. -/
def fnExactMirrorProfileSpec : ChangeSpec := { name := "fnExactMirrorProfile", fn := fun _ => fun
  | [d] => { results := [.lit (.bool true)], args := [d] }
  | _ => none }
def fnExactMirrorProfileRow : OpenClaim := { program := "ytdkgdinbglkjcaa", sum := "9bb442a124c4645f47296e41db9b7dadaf53f5cc282f7baf8b7bad5c7fc5782e", func := "loop.example/g01256/laws.FnExactMirrorProfile", spec := "fnExactMirrorProfile", unfollowed := true, recurses := true, apart := false }
def FnExactMirrorProfileSaid : Prop := fnExactMirrorProfileRow.holds Try.pinned (OpenSpec.ofChange fnExactMirrorProfileSpec)

/-- ITS FALSE NEIGHBOUR: 'it returns false'. Refute it at one input. -/
def fnExactMirrorProfileWrong : ChangeSpec := { name := "fnExactMirrorProfile", fn := fun _ => fun
  | [d] => { results := [.lit (.bool false)], args := [d] }
  | _ => none }
def FnExactMirrorProfileWrongFalsely : Prop := fnExactMirrorProfileRow.holds Try.pinned (OpenSpec.ofChange fnExactMirrorProfileWrong)

/-- 'laws.FnExactCutProfile': WHATEVER THE INPUT: true; the input reads as it did. -/
def fnExactCutProfileSpec : ChangeSpec := { name := "fnExactCutProfile", fn := fun _ => fun
  | [d1, d2, d3] => { results := [.lit (.bool true)], args := [d1, d2, d3] }
  | _ => none }
def fnExactCutProfileRow : OpenClaim := { program := "ytdkgdinbglkjcaa", sum := "9bb442a124c4645f47296e41db9b7dadaf53f5cc282f7baf8b7bad5c7fc5782e", func := "loop.example/g01256/laws.FnExactCutProfile", spec := "fnExactCutProfile", unfollowed := true, recurses := true, apart := false }
def FnExactCutProfileSaid : Prop := fnExactCutProfileRow.holds Try.pinned (OpenSpec.ofChange fnExactCutProfileSpec)

/-- ITS FALSE NEIGHBOUR: 'it returns false'. Refute it at one input. -/
def fnExactCutProfileWrong : ChangeSpec := { name := "fnExactCutProfile", fn := fun _ => fun
  | [d1, d2, d3] => { results := [.lit (.bool false)], args := [d1, d2, d3] }
  | _ => none }
def FnExactCutProfileWrongFalsely : Prop := fnExactCutProfileRow.holds Try.pinned (OpenSpec.ofChange fnExactCutProfileWrong)

/-- 'laws.FnExactScaleProfile': WHATEVER THE INPUT: true; the input reads as it did. -/
def fnExactScaleProfileSpec : ChangeSpec := { name := "fnExactScaleProfile", fn := fun _ => fun
  | [d1, d2, d3] => { results := [.lit (.bool true)], args := [d1, d2, d3] }
  | _ => none }
def fnExactScaleProfileRow : OpenClaim := { program := "ytdkgdinbglkjcaa", sum := "9bb442a124c4645f47296e41db9b7dadaf53f5cc282f7baf8b7bad5c7fc5782e", func := "loop.example/g01256/laws.FnExactScaleProfile", spec := "fnExactScaleProfile", unfollowed := true, recurses := true, apart := false }
def FnExactScaleProfileSaid : Prop := fnExactScaleProfileRow.holds Try.pinned (OpenSpec.ofChange fnExactScaleProfileSpec)

/-- ITS FALSE NEIGHBOUR: 'it returns false'. Refute it at one input. -/
def fnExactScaleProfileWrong : ChangeSpec := { name := "fnExactScaleProfile", fn := fun _ => fun
  | [d1, d2, d3] => { results := [.lit (.bool false)], args := [d1, d2, d3] }
  | _ => none }
def FnExactScaleProfileWrongFalsely : Prop := fnExactScaleProfileRow.holds Try.pinned (OpenSpec.ofChange fnExactScaleProfileWrong)

/-- 'laws.FnExactDropKnot': WHATEVER THE INPUT: true; the input reads as it did. -/
def fnExactDropKnotSpec : ChangeSpec := { name := "fnExactDropKnot", fn := fun _ => fun
  | [d1, d2] => { results := [.lit (.bool true)], args := [d1, d2] }
  | _ => none }
def fnExactDropKnotRow : OpenClaim := { program := "ytdkgdinbglkjcaa", sum := "9bb442a124c4645f47296e41db9b7dadaf53f5cc282f7baf8b7bad5c7fc5782e", func := "loop.example/g01256/laws.FnExactDropKnot", spec := "fnExactDropKnot", unfollowed := true, recurses := true, apart := false }
def FnExactDropKnotSaid : Prop := fnExactDropKnotRow.holds Try.pinned (OpenSpec.ofChange fnExactDropKnotSpec)

/-- ITS FALSE NEIGHBOUR: 'it returns false'. Refute it at one input. -/
def fnExactDropKnotWrong : ChangeSpec := { name := "fnExactDropKnot", fn := fun _ => fun
  | [d1, d2] => { results := [.lit (.bool false)], args := [d1, d2] }
  | _ => none }
def FnExactDropKnotWrongFalsely : Prop := fnExactDropKnotRow.holds Try.pinned (OpenSpec.ofChange fnExactDropKnotWrong)

/- THE SECOND FORM. 'bulk': how many values and letters a reading holds, each counted each time it is reached (what is shared counts as often as it is met; a slice's spare places count too). A statement '..UptoSaid' is the law's where the arguments, and the package variables that the reading takes, are together of bulk at most 1048576: NARROWER than '..Said'. Prove '..Said' where nothing that the law and all that it calls make is longer than what came in: it says more and counts as full. Else prove '..UptoSaid'. A law counts once. -/
mutual
def uptoBulk {H : Type} : DataW H → Nat
  | .lit (.string bytes) => bytes.length + 1
  | .lit _ => 1
  | .nil => 1
  | .ptr d => uptoBulk d + 1
  | .slice elems spare => uptoBulkAll elems + uptoBulkAll spare + 1
  | .agg parts => uptoBulkAll parts + 1
  | .iface _ d => uptoBulk d + 1
  | .map entries => uptoBulkEntries entries + 1
  | .held _ => 1
def uptoBulkAll {H : Type} : List (DataW H) → Nat
  | [] => 0
  | d :: r => uptoBulk d + uptoBulkAll r
def uptoBulkEntries {H : Type} : List (Lit × DataW H) → Nat
  | [] => 0
  | x :: r => uptoBulkEntry x + uptoBulkEntries r
def uptoBulkEntry {H : Type} : Lit × DataW H → Nat
  | (.string bytes, d) => bytes.length + uptoBulk d + 1
  | (_, d) => uptoBulk d + 1
 end
def uptoSmall : (H : Type) → List (DataW H) → Bool := fun _ ds => decide (uptoBulkAll ds ≤ 1048576)
def OpenSpec.upto (s : _root_.Go.ChangeSpec) : _root_.Go.OpenSpec := { _root_.Go.OpenSpec.ofChange s with cond := some uptoSmall }

/-- 'laws.FnExactDotNumbers', WHERE WHAT IT READS IS OF BULK AT MOST 1048576: true; the input reads as it did. -/
def fnExactDotNumbersUptoRow : OpenClaim := { program := "ytdkgdinbglkjcaa", sum := "9bb442a124c4645f47296e41db9b7dadaf53f5cc282f7baf8b7bad5c7fc5782e", func := "loop.example/g01256/laws.FnExactDotNumbers", spec := "fnExactDotNumbers", apart := false, narrowed := true }
def FnExactDotNumbersUptoSaid : Prop := fnExactDotNumbersUptoRow.holds Try.pinned (OpenSpec.upto fnExactDotNumbersSpec)

/-- 'laws.FnExactSumNumbers', WHERE WHAT IT READS IS OF BULK AT MOST 1048576: true; the input reads as it did. -/
def fnExactSumNumbersUptoRow : OpenClaim := { program := "ytdkgdinbglkjcaa", sum := "9bb442a124c4645f47296e41db9b7dadaf53f5cc282f7baf8b7bad5c7fc5782e", func := "loop.example/g01256/laws.FnExactSumNumbers", spec := "fnExactSumNumbers", apart := false, narrowed := true }
def FnExactSumNumbersUptoSaid : Prop := fnExactSumNumbersUptoRow.holds Try.pinned (OpenSpec.upto fnExactSumNumbersSpec)

/-- 'laws.FnExactSameProfile', WHERE WHAT IT READS IS OF BULK AT MOST 1048576: true; the input reads as it did. -/
def fnExactSameProfileUptoRow : OpenClaim := { program := "ytdkgdinbglkjcaa", sum := "9bb442a124c4645f47296e41db9b7dadaf53f5cc282f7baf8b7bad5c7fc5782e", func := "loop.example/g01256/laws.FnExactSameProfile", spec := "fnExactSameProfile", inPlace := ["math.Float32bits", "math.Float64bits"], unfollowed := true, recurses := true, apart := false, narrowed := true }
def FnExactSameProfileUptoSaid : Prop := fnExactSameProfileUptoRow.holds Try.pinned (OpenSpec.upto fnExactSameProfileSpec)

/-- 'laws.FnExactValidProfile', WHERE WHAT IT READS IS OF BULK AT MOST 1048576: true; the input reads as it did. -/
def fnExactValidProfileUptoRow : OpenClaim := { program := "ytdkgdinbglkjcaa", sum := "9bb442a124c4645f47296e41db9b7dadaf53f5cc282f7baf8b7bad5c7fc5782e", func := "loop.example/g01256/laws.FnExactValidProfile", spec := "fnExactValidProfile", unfollowed := true, recurses := true, apart := false, narrowed := true }
def FnExactValidProfileUptoSaid : Prop := fnExactValidProfileUptoRow.holds Try.pinned (OpenSpec.upto fnExactValidProfileSpec)

/-- 'laws.FnExactRunApart', WHERE WHAT IT READS IS OF BULK AT MOST 1048576: true; the input reads as it did. -/
def fnExactRunApartUptoRow : OpenClaim := { program := "ytdkgdinbglkjcaa", sum := "9bb442a124c4645f47296e41db9b7dadaf53f5cc282f7baf8b7bad5c7fc5782e", func := "loop.example/g01256/laws.FnExactRunApart", spec := "fnExactRunApart", unfollowed := true, recurses := true, apart := false, narrowed := true }
def FnExactRunApartUptoSaid : Prop := fnExactRunApartUptoRow.holds Try.pinned (OpenSpec.upto fnExactRunApartSpec)

/-- 'laws.FnExactStallOf', WHERE WHAT IT READS IS OF BULK AT MOST 1048576: true; the input reads as it did. -/
def fnExactStallOfUptoRow : OpenClaim := { program := "ytdkgdinbglkjcaa", sum := "9bb442a124c4645f47296e41db9b7dadaf53f5cc282f7baf8b7bad5c7fc5782e", func := "loop.example/g01256/laws.FnExactStallOf", spec := "fnExactStallOf", unfollowed := true, recurses := true, apart := false, narrowed := true }
def FnExactStallOfUptoSaid : Prop := fnExactStallOfUptoRow.holds Try.pinned (OpenSpec.upto fnExactStallOfSpec)

/-- 'laws.FnExactBestGlide', WHERE WHAT IT READS IS OF BULK AT MOST 1048576: true; the input reads as it did. -/
def fnExactBestGlideUptoRow : OpenClaim := { program := "ytdkgdinbglkjcaa", sum := "9bb442a124c4645f47296e41db9b7dadaf53f5cc282f7baf8b7bad5c7fc5782e", func := "loop.example/g01256/laws.FnExactBestGlide", spec := "fnExactBestGlide", unfollowed := true, recurses := true, apart := false, narrowed := true }
def FnExactBestGlideUptoSaid : Prop := fnExactBestGlideUptoRow.holds Try.pinned (OpenSpec.upto fnExactBestGlideSpec)

/-- 'laws.FnExactLiftArea', WHERE WHAT IT READS IS OF BULK AT MOST 1048576: true; the input reads as it did. -/
def fnExactLiftAreaUptoRow : OpenClaim := { program := "ytdkgdinbglkjcaa", sum := "9bb442a124c4645f47296e41db9b7dadaf53f5cc282f7baf8b7bad5c7fc5782e", func := "loop.example/g01256/laws.FnExactLiftArea", spec := "fnExactLiftArea", unfollowed := true, recurses := true, apart := false, narrowed := true }
def FnExactLiftAreaUptoSaid : Prop := fnExactLiftAreaUptoRow.holds Try.pinned (OpenSpec.upto fnExactLiftAreaSpec)

/-- 'laws.FnExactZeroLift', WHERE WHAT IT READS IS OF BULK AT MOST 1048576: true; the input reads as it did. -/
def fnExactZeroLiftUptoRow : OpenClaim := { program := "ytdkgdinbglkjcaa", sum := "9bb442a124c4645f47296e41db9b7dadaf53f5cc282f7baf8b7bad5c7fc5782e", func := "loop.example/g01256/laws.FnExactZeroLift", spec := "fnExactZeroLift", unfollowed := true, recurses := true, apart := false, narrowed := true }
def FnExactZeroLiftUptoSaid : Prop := fnExactZeroLiftUptoRow.holds Try.pinned (OpenSpec.upto fnExactZeroLiftSpec)

/-- 'laws.FnExactFitDrags', WHERE WHAT IT READS IS OF BULK AT MOST 1048576: true; the input reads as it did. -/
def fnExactFitDragsUptoRow : OpenClaim := { program := "ytdkgdinbglkjcaa", sum := "9bb442a124c4645f47296e41db9b7dadaf53f5cc282f7baf8b7bad5c7fc5782e", func := "loop.example/g01256/laws.FnExactFitDrags", spec := "fnExactFitDrags", unfollowed := true, recurses := true, apart := false, narrowed := true }
def FnExactFitDragsUptoSaid : Prop := fnExactFitDragsUptoRow.holds Try.pinned (OpenSpec.upto fnExactFitDragsSpec)

/-- 'laws.FnExactMirrorProfile', WHERE WHAT IT READS IS OF BULK AT MOST 1048576: true; the input reads as it did. -/
def fnExactMirrorProfileUptoRow : OpenClaim := { program := "ytdkgdinbglkjcaa", sum := "9bb442a124c4645f47296e41db9b7dadaf53f5cc282f7baf8b7bad5c7fc5782e", func := "loop.example/g01256/laws.FnExactMirrorProfile", spec := "fnExactMirrorProfile", unfollowed := true, recurses := true, apart := false, narrowed := true }
def FnExactMirrorProfileUptoSaid : Prop := fnExactMirrorProfileUptoRow.holds Try.pinned (OpenSpec.upto fnExactMirrorProfileSpec)

/-- 'laws.FnExactCutProfile', WHERE WHAT IT READS IS OF BULK AT MOST 1048576: true; the input reads as it did. -/
def fnExactCutProfileUptoRow : OpenClaim := { program := "ytdkgdinbglkjcaa", sum := "9bb442a124c4645f47296e41db9b7dadaf53f5cc282f7baf8b7bad5c7fc5782e", func := "loop.example/g01256/laws.FnExactCutProfile", spec := "fnExactCutProfile", unfollowed := true, recurses := true, apart := false, narrowed := true }
def FnExactCutProfileUptoSaid : Prop := fnExactCutProfileUptoRow.holds Try.pinned (OpenSpec.upto fnExactCutProfileSpec)

/-- 'laws.FnExactScaleProfile', WHERE WHAT IT READS IS OF BULK AT MOST 1048576: true; the input reads as it did. -/
def fnExactScaleProfileUptoRow : OpenClaim := { program := "ytdkgdinbglkjcaa", sum := "9bb442a124c4645f47296e41db9b7dadaf53f5cc282f7baf8b7bad5c7fc5782e", func := "loop.example/g01256/laws.FnExactScaleProfile", spec := "fnExactScaleProfile", unfollowed := true, recurses := true, apart := false, narrowed := true }
def FnExactScaleProfileUptoSaid : Prop := fnExactScaleProfileUptoRow.holds Try.pinned (OpenSpec.upto fnExactScaleProfileSpec)

/-- 'laws.FnExactDropKnot', WHERE WHAT IT READS IS OF BULK AT MOST 1048576: true; the input reads as it did. -/
def fnExactDropKnotUptoRow : OpenClaim := { program := "ytdkgdinbglkjcaa", sum := "9bb442a124c4645f47296e41db9b7dadaf53f5cc282f7baf8b7bad5c7fc5782e", func := "loop.example/g01256/laws.FnExactDropKnot", spec := "fnExactDropKnot", unfollowed := true, recurses := true, apart := false, narrowed := true }
def FnExactDropKnotUptoSaid : Prop := fnExactDropKnotUptoRow.holds Try.pinned (OpenSpec.upto fnExactDropKnotSpec)

end Rows
end Go.Proofs.Ytdkgdinbglkjcaa
