/- Small facts for the frames of the proofs. -/
import Derived.Test.YtjpbimfnppmbcaaWk1
import Derived.ProofKit
import Derived.OpenShut
import Derived.ChangeOld
import Derived.Below
namespace Go.Proofs.Ytjpbimfnppmbcaa
open Fl Go.ChangeShapes Go.WideShapes Go.ChangeAt Go.RowKit

theorem ownK : ownKnob Try.prog.godebug = none := by kernel_rfl
theorem laidK : laidOutB Try.prog = true := by kernel_rfl

theorem below_drewN' (w : World) (n : Nat) : Below w.heap.size w (w.drewN n) := ⟨rfl, rfl, rfl, Nat.le_refl _, fun _ _ => rfl⟩
theorem Ret.below {v : Value} {w : World} {e : Ending} {w' : World} (h : Ret v w e w') : e = .returned v ∧ Below w.heap.size w w' := by
  obtain ⟨rfl, n, rfl⟩ := h
  exact ⟨rfl, below_drewN' _ _⟩

theorem wf32 {b : Nat} (h : (Lit.float .f32 b).wf = true) : W32 b := by unfold W32; simpa [Lit.wf] using h
theorem wf64 {b : Nat} (h : (Lit.float .f64 b).wf = true) : W64 b := by unfold W64; simpa [Lit.wf] using h
/-- An int64. -/
def I64 (n : Int) : Prop := -9223372036854775808 ≤ n ∧ n ≤ 9223372036854775807
theorem wfi64 {n : Int} (h : (Lit.int .i64 n).wf = true) : I64 n := by
  simp [Lit.wf, IntKind.min, IntKind.max, IntKind.bits, IntKind.signed] at h
  exact ⟨by omega, by omega⟩

end Go.Proofs.Ytjpbimfnppmbcaa
