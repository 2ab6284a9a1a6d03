/- FromBits, StepApart and FlushNumber: the walks of the reference, of the program and of the laws. -/
import Derived.Test.YtcaceplnlfmejaaGreatDoorWk3
namespace Go.Proofs.YtcaceplnlfmejaaGreatDoor
open Fl Go.RowKit


theorem spec_l01From (n : Int) (h0 : 0 ≤ n) (h1 : n ≤ 4294967295) (w : World) : Calls Tryz.prog 51 #[.int .i64 n] w (Ret (.float .f32 n.toNat) w) := by
  have k := f32from
  go_enter Tryz.func51, Tryz.ntmps51
  go_wp2
  go_ret
  exact .mk' 0 rfl rfl


theorem impl_FromBits_yes (n : Int) (h0 : 0 ≤ n) (h1 : n ≤ 4294967295) (w : World) : Calls Tryz.prog 20 #[.int .i64 n] w (Ret (.tuple #[.float .f32 n.toNat, .bool true]) w) := by
  have k := f32from
  go_enter Tryz.func20, Tryz.ntmps20
  go_wp2_with (go_at_call 53; refine (impl_within_yes _ _ _ h0 (by omega) _).mono ?_; rintro e w' ⟨rfl, m, rfl⟩)
  go_ret2
  exact .mk' _ rfl rfl
theorem impl_FromBits_no (n : Int) (h : n < 0 ∨ 4294967295 < n) (w : World) : Calls Tryz.prog 20 #[.int .i64 n] w (Ret (.tuple #[.float .f32 0, .bool false]) w) := by
  have H := Lib.hid h; clear h
  go_enter Tryz.func20, Tryz.ntmps20
  go_wp2_with (go_at_call 53; refine (impl_within_no _ _ _ H.out _).mono ?_; rintro e w' ⟨rfl, m, rfl⟩)
  go_ret2
  exact .mk' _ rfl rfl


/-- Are the edges fit? Is air apart? -/
def edges (u d : Nat) : Bool := finb FloatKind.f32.format u && finb FloatKind.f32.format d && !(FloatKind.f32.format.order d u == some .gt)
def apartOf (ap : Bool) (x u d : Nat) : Bool := (FloatKind.f32.format.order x u == some .gt) || (ap && !(FloatKind.f32.format.order x d == some .lt))

theorem edges_fin {u d : Nat} (h : edges u d = true) : finb FloatKind.f32.format u = true ∧ finb FloatKind.f32.format d = true := by
  unfold edges at h
  rw [Bool.and_eq_true, Bool.and_eq_true] at h
  exact h.1
theorem edges_gt {u d : Nat} (h : edges u d = true) : (FloatKind.f32.format.order d u == some .gt) = false := by
  unfold edges at h
  rw [Bool.and_eq_true] at h
  simpa using h.2
theorem step_fin {x u d : Nat} (hx : finb FloatKind.f32.format x = true) (he : edges u d = true) : [x, u, d].any notFin = false := by
  have h := edges_fin he
  simp [notFin, hx, h.1, h.2]
theorem step_gt {x u d : Nat} (h : (finb FloatKind.f32.format x && edges u d) = false) (hx : [x, u, d].any notFin = false) : (FloatKind.f32.format.order d u == some .gt) = true := by
  simp only [List.any_cons, List.any_nil, Bool.or_false, Bool.or_eq_false_iff, notFin, Bool.not_eq_false'] at hx
  unfold edges at h
  rw [hx.1, hx.2.1, hx.2.2] at h
  simpa using h






theorem math_Copysign0 (y : Nat) (hy : W64 y) (w : World) : Calls Tryz.prog 62 #[.float .f64 0, .float .f64 y] w (Ret (.float .f64 (sg64 (ng FloatKind.f64.format y))) w) := by
  have hb' := hy.le
  have k := f64bits
  have k0 : ∀ w : World, (callFunc 86 #[.float .f64 0]).run Tryz.prog w = .ok (.value (.int .u64 0)) w := fun w => f64bits 0 w
  have k2 := f64from
  go_enter Tryz.func62, Tryz.ntmps62
  go_wp2
  go_ret
  exact .mk' 0 (float_congr (copysign_sg hy)) rfl

theorem impl_FlushNumber (b : Nat) (hw : W32 b) (w : World) : Calls Tryz.prog 28 #[.float .f32 b] w (Ret (.float .f32 (flush b)) w) := by
  cases hs : sub b
  · have HF := Lib.hid (flush_not hw hs)
    have HS := Lib.hid hs; clear hs
    go_enter Tryz.func28, Tryz.ntmps28
    go_wp2_with (go_at_call 33; refine (impl_IsSubnormal _ hw _).mono ?_; rintro e w' ⟨rfl, n, rfl⟩; rw [HS.out])
    go_ret
    exact .mk' _ (float_congr HF.out.symm) rfl
  · have HF := Lib.hid (flush_sg hs)
    have HN := Lib.hid (sub_not_nan hs)
    have HS := Lib.hid hs; clear hs
    go_enter Tryz.func28, Tryz.ntmps28
    go_wp2_with (first | (go_at_call 33; refine (impl_IsSubnormal _ hw _).mono ?_; rintro e w' ⟨rfl, n, rfl⟩; rw [HS.out]) | (go_at_call 62; refine (math_Copysign0 _ (cv_wide_lt _ _) _).mono ?_; rintro e w' ⟨rfl, n', rfl⟩))
    go_ret
    exact .mk' _ (float_congr (by rw [HF.out]; exact (narrow_sg _ _).trans (by rw [ng_wide HN.out]))) rfl




end Go.Proofs.YtcaceplnlfmejaaGreatDoor
