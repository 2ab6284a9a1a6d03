/- A number if it is finite; ZeroLift: where the lift passes zero. -/
import Derived.Test.YtdkgdinbglkjcaaWk12
import Derived.Test.YtdkgdinbglkjcaaWk4
namespace Go.Proofs.Ytdkgdinbglkjcaa
open Fl Go.RowKit

/-- The answer: a number of this class if it is finite. -/
def numR (c : Option Nat) : Value := match c with
  | some r => if finb FloatKind.f32.format r then .tuple #[.float .f32 r, .bool true] else .tuple #[.float .f32 0, .bool false]
  | none => .tuple #[.float .f32 0, .bool false]
theorem numR_fin {x : Nat} (h : finb FloatKind.f32.format x = true) : numR (cls .f32 x) = .tuple #[.float .f32 x, .bool true] := by
  rw [cls_fin (k := .f32) (finb_iff.1 h)]
  show (if finb FloatKind.f32.format x then _ else _) = _
  rw [h]; rfl
theorem numR_no {x : Nat} (h : finb FloatKind.f32.format x = false) : numR (cls .f32 x) = .tuple #[.float .f32 0, .bool false] := by
  cases hn : nan FloatKind.f32.format x
  · rw [cls_some (k := .f32) hn]
    show (if finb FloatKind.f32.format x then _ else _) = _
    rw [h]; rfl
  · rw [cls_none (k := .f32) hn]; rfl
theorem numR_shape (c : Option Nat) : ∃ (z : Nat) (o : Bool), numR c = .tuple #[.float .f32 z, .bool o] := by
  unfold numR
  split
  · split
    · exact ⟨_, _, rfl⟩
    · exact ⟨_, _, rfl⟩
  · exact ⟨_, _, rfl⟩

theorem spec_l02Number (x : Nat) (w : World) : Calls Try.prog 73 #[.float .f32 x] w (Ret (numR (cls .f32 x)) w) := by
  cases h : finb FloatKind.f32.format x
  · rw [numR_no h]
    have H := Lib.hid h; clear h
    go_enter Try.func73, Try.ntmps73
    go_wp2_with (go_at_call 69; refine (spec_l01Finite _ _).mono ?_; rintro e w' ⟨rfl, n, rfl⟩; rw [H.out])
    go_ret2
    exact .mk' _ rfl rfl
  · rw [numR_fin h]
    have H := Lib.hid h; clear h
    go_enter Try.func73, Try.ntmps73
    go_wp2_with (go_at_call 69; refine (spec_l01Finite _ _).mono ?_; rintro e w' ⟨rfl, n, rfl⟩; rw [H.out])
    go_ret2
    exact .mk' _ rfl rfl

theorem impl_checked (x : Nat) (w : World) : Calls Try.prog 74 #[.float .f32 x] w (Ret (numR (cls .f32 x)) w) := by
  cases h : finb FloatKind.f32.format x
  · rw [numR_no h]
    have H := Lib.hid h; clear h
    go_enter Try.func74, Try.ntmps74
    go_wp2_with (go_at_call 72; refine (impl_IsFinite _ _).mono ?_; rintro e w' ⟨rfl, n, rfl⟩; rw [H.out])
    go_ret2
    exact .mk' _ rfl rfl
  · rw [numR_fin h]
    have H := Lib.hid h; clear h
    go_enter Try.func74, Try.ntmps74
    go_wp2_with (go_at_call 72; refine (impl_IsFinite _ _).mono ?_; rintro e w' ⟨rfl, n, rfl⟩; rw [H.out])
    go_ret2
    exact .mk' _ rfl rfl

/-- Does the lift pass zero ahead of the knot j + 1? -/
def crossB (L : List Nat) (j : Nat) : Bool := leB (L.getD j 0) 0 && gtB (L.getD (j + 1) 0) 0
/-- The angle there. -/
def crossC (A L : List Nat) (j : Nat) : Option Nat :=
  let a := cls .f32 (L.getD j 0); let b := cls .f32 (L.getD (j + 1) 0)
  let p := cls .f32 (A.getD j 0); let q := cls .f32 (A.getD (j + 1) 0)
  cop .add .f32 p (cop .mul .f32 (cop .sub .f32 q p) (cop .quo .f32 a (cop .sub .f32 a b)))
def zeroR (A L D : List Nat) : Value := if validB A L D then
    match (List.range (L.length - 1)).find? (crossB L) with
    | some j => numR (crossC A L j)
    | none => .tuple #[.float .f32 0, .bool false]
  else .tuple #[.float .f32 0, .bool false]
theorem zeroR_no {A L D : List Nat} (h : validB A L D = false) : zeroR A L D = .tuple #[.float .f32 0, .bool false] := by unfold zeroR; rw [h]; rfl
theorem zeroR_none {A L D : List Nat} (h : validB A L D = true) (hj : ∀ j, j + 1 < L.length → crossB L j = false) : zeroR A L D = .tuple #[.float .f32 0, .bool false] := by
  unfold zeroR
  rw [h, if_pos rfl]
  have : (List.range (L.length - 1)).find? (crossB L) = none := by
    rw [List.find?_eq_none]
    intro x hx
    rw [List.mem_range] at hx
    rw [hj x (by omega)]; simp
  rw [this]
theorem zeroR_some {A L D : List Nat} {k : Nat} (h : validB A L D = true) (hk : k + 1 < L.length) (hc : crossB L k = true) (hj : ∀ j, j < k → crossB L j = false) : zeroR A L D = numR (crossC A L k) := by
  unfold zeroR
  rw [h, if_pos rfl]
  have : (List.range (L.length - 1)).find? (crossB L) = some k := by
    rw [List.find?_range_eq_some]
    exact ⟨hc, by rw [List.mem_range]; omega, fun j hj' => by rw [hj j hj']; rfl⟩
  rw [this]
theorem zeroR_shape (A L D : List Nat) : ∃ (z : Nat) (o : Bool), zeroR A L D = .tuple #[.float .f32 z, .bool o] := by
  unfold zeroR
  split
  · split
    · exact numR_shape _
    · exact ⟨_, _, rfl⟩
  · exact ⟨_, _, rfl⟩

end Go.Proofs.Ytdkgdinbglkjcaa
