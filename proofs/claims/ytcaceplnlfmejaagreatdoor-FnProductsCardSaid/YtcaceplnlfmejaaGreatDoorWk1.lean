/- What the small functions on single numbers do: each returns what its Lean function says, and leaves the memory as it was; at most some answers are drawn (the bits of a not-a-number). -/
import Derived.Test.YtcaceplnlfmejaaGreatDoorChecked
import Derived.Test.YtcaceplnlfmejaaGreatDoorFlu
import Derived.WalkKit
import Derived.WalkLawsBesides
import Derived.Laws.Externs
import Derived.Lib.Hide
namespace Go.Proofs.YtcaceplnlfmejaaGreatDoor
open Fl Go.RowKit

/-- The call returns v; the memory is as it was. -/
def Ret (v : Value) (w : World) (e : Ending) (w' : World) : Prop := e = .returned v ∧ ∃ n, w' = w.drewN n
theorem Ret.mk' {v v' : Value} {w w' : World} (n : Nat) (h : v = v') (hw : w' = w.drewN n) : Ret v' w (.returned v) w' := ⟨by rw [h], n, hw⟩
theorem bool_congr {a b : Bool} (h : a = b) : Value.bool a = Value.bool b := by rw [h]
theorem int_congr {k : IntKind} {a b : Int} (h : a = b) : Value.int k a = Value.int k b := by rw [h]
theorem float_congr {k : FloatKind} {a b : Nat} (h : a = b) : Value.float k a = Value.float k b := by rw [h]

theorem f32bits (b : Nat) (w : World) : (callFunc 55 #[.float .f32 b]).run Tryz.prog w = .ok (.value (.int .u32 b)) w := by
  rw [run_callFunc_extern Tryz.func55 (by kernel_rfl) (by kernel_rfl) (by kernel_rfl) (e := Extern.MathFloatBits.float32bits) (by kernel_rfl)]
  rfl

theorem f32from (n : Int) (w : World) : (callFunc 54 #[.int .u32 n]).run Tryz.prog w = .ok (.value (.float .f32 n.toNat)) w := by
  rw [run_callFunc_extern Tryz.func54 (by kernel_rfl) (by kernel_rfl) (by kernel_rfl) (e := Extern.MathFloatBits.float32frombits) (by kernel_rfl)]
  rfl

theorem f64bits (b : Nat) (w : World) : (callFunc 86 #[.float .f64 b]).run Tryz.prog w = .ok (.value (.int .u64 b)) w := by
  rw [run_callFunc_extern Tryz.func86 (by kernel_rfl) (by kernel_rfl) (by kernel_rfl) (e := Extern.MathFloatBits.float64bits) (by kernel_rfl)]
  rfl

theorem f64from (n : Int) (w : World) : (callFunc 85 #[.int .u64 n]).run Tryz.prog w = .ok (.value (.float .f64 n.toNat)) w := by
  rw [run_callFunc_extern Tryz.func85 (by kernel_rfl) (by kernel_rfl) (by kernel_rfl) (e := Extern.MathFloatBits.float64frombits) (by kernel_rfl)]
  rfl

theorem impl_within_yes (n a b : Int) (h1 : a ≤ n) (h2 : n ≤ b) (w : World) : Calls Tryz.prog 53 #[.int .i64 n, .int .i64 a, .int .i64 b] w (Ret (.bool true) w) := by
  go_enter Tryz.func53, Tryz.ntmps53
  go_wp2
  go_ret
  exact .mk' 0 rfl rfl
theorem impl_within_no (n a b : Int) (h : n < a ∨ b < n) (w : World) : Calls Tryz.prog 53 #[.int .i64 n, .int .i64 a, .int .i64 b] w (Ret (.bool false) w) := by
  by_cases h1 : n < a
  · clear h
    go_enter Tryz.func53, Tryz.ntmps53
    go_wp2
    go_ret
    exact .mk' 0 rfl rfl
  · have h2 : decide (n ≤ b) = false := decide_eq_false (by omega)
    clear h
    go_enter Tryz.func53, Tryz.ntmps53
    go_wp2
    go_ret
    exact .mk' 0 rfl rfl


theorem spec_l01Finite (b : Nat) (w : World) : Calls Tryz.prog 61 #[.float .f32 b] w (Ret (.bool (finb FloatKind.f32.format b)) w) := by
  go_enter Tryz.func61, Tryz.ntmps61
  go_wp2
  go_ret
  exact .mk' _ (bool_congr (self_sub _ _ _)) rfl

theorem spec_IsFinite (b : Nat) (w : World) : Calls Tryz.prog 27 #[.float .f32 b] w (Ret (.bool (finb FloatKind.f32.format b)) w) := by
  go_enter Tryz.func27, Tryz.ntmps27
  go_wp2_with (go_at_call 61; refine (spec_l01Finite _ _).mono ?_; rintro e w' ⟨rfl, n, rfl⟩)
  go_ret
  exact .mk' _ rfl rfl

theorem impl_IsFinite (b : Nat) (w : World) : Calls Tryz.prog 67 #[.float .f32 b] w (Ret (.bool (finb FloatKind.f32.format b)) w) := by
  go_enter Tryz.func67, Tryz.ntmps67
  go_wp2
  go_ret
  exact .mk' _ (bool_congr (self_sub _ _ _)) rfl

theorem spec_l01Bits (b : Nat) (hw : W32 b) (w : World) : Calls Tryz.prog 71 #[.float .f32 b] w (Ret (.int .i64 (bt b)) w) := by
  have hb := hw.le
  have k := f32bits
  cases h : nan FloatKind.f32.format b
  · have h' : (FloatKind.f32.format.order b b != some .eq) = false := by rw [ne_self, h]
    have H := Lib.hid h; clear h
    go_enter Tryz.func71, Tryz.ntmps71
    go_wp2
    go_ret
    exact .mk' 0 (int_congr (bt_not H.out).symm) rfl
  · have h' : (FloatKind.f32.format.order b b != some .eq) = true := by rw [ne_self, h]
    have H := Lib.hid h; clear h
    go_enter Tryz.func71, Tryz.ntmps71
    go_wp2
    go_ret
    exact .mk' 0 (int_congr (bt_nan H.out).symm) rfl

theorem impl_BitsOf (b : Nat) (hw : W32 b) (w : World) : Calls Tryz.prog 21 #[.float .f32 b] w (Ret (.int .i64 (bt b)) w) := by
  have hb := hw.le
  have k := f32bits
  cases h : nan FloatKind.f32.format b
  · have h' : (FloatKind.f32.format.order b b != some .eq) = false := by rw [ne_self, h]
    have H := Lib.hid h; clear h
    go_enter Tryz.func21, Tryz.ntmps21
    go_wp2
    go_ret
    exact .mk' 0 (int_congr (bt_not H.out).symm) rfl
  · have h' : (FloatKind.f32.format.order b b != some .eq) = true := by rw [ne_self, h]
    have H := Lib.hid h; clear h
    go_enter Tryz.func21, Tryz.ntmps21
    go_wp2
    go_ret
    exact .mk' 0 (int_congr (bt_nan H.out).symm) rfl


theorem math_Abs (b : Nat) (hb : W64 b) (w : World) : Calls Tryz.prog 65 #[.float .f64 b] w (Ret (.float .f64 (absd b)) w) := by
  have hb' := hb.le
  have k := f64bits
  have k2 := f64from
  go_enter Tryz.func65, Tryz.ntmps65
  go_wp2
  go_ret
  exact .mk' 0 (float_congr (absd_eq hb)) rfl

theorem math_Signbit (b : Nat) (hb : W64 b) (w : World) : Calls Tryz.prog 82 #[.float .f64 b] w (Ret (.bool (ng FloatKind.f64.format b)) w) := by
  have hb' := hb.le
  have k := f64bits
  go_enter Tryz.func82, Tryz.ntmps82
  go_wp2
  go_ret
  exact .mk' 0 (bool_congr (signbit b)) rfl

theorem impl_IsSubnormal (b : Nat) (hw : W32 b) (w : World) : Calls Tryz.prog 33 #[.float .f32 b] w (Ret (.bool (sub b)) w) := by
  have hb := hw.le
  cases h : (FloatKind.f32.format.order b 0 != some .eq)
  · have hs := Lib.hid (sub_of_zero (b := b) (by rw [← h, ne_zero]))
    go_enter Tryz.func33, Tryz.ntmps33
    go_wp2
    go_ret
    exact .mk' 0 (bool_congr hs.out.symm) rfl
  · have hs := Lib.hid (sub_of_ne (b := b) (by rw [← h, ne_zero]))
    go_enter Tryz.func33, Tryz.ntmps33
    go_wp2_with (go_at_call 65; refine (math_Abs _ (cv_wide_lt _ _) _).mono ?_; rintro e w' ⟨rfl, n, rfl⟩)
    go_ret
    exact .mk' _ (bool_congr (by rw [hs.out]; exact below_least _ _)) rfl


theorem spec_l01Same (a b : Nat) (ha : W32 a) (hb : W32 b) (w : World) : Calls Tryz.prog 42 #[.float .f32 a, .float .f32 b] w (Ret (.bool (same a b)) w) := by
  go_enter Tryz.func42, Tryz.ntmps42
  go_wp2_with fail
  refine (spec_l01Bits _ ha _).mono ?_
  rintro e w' ⟨rfl, n, rfl⟩
  go_wp2_with fail
  refine (spec_l01Bits _ hb _).mono ?_
  rintro e w' ⟨rfl, m, rfl⟩
  go_wp2
  go_ret
  exact .mk' _ rfl rfl

theorem spec_SameNumber (a b : Nat) (ha : W32 a) (hb : W32 b) (w : World) : Calls Tryz.prog 10 #[.float .f32 a, .float .f32 b] w (Ret (.bool (same a b)) w) := by
  go_enter Tryz.func10, Tryz.ntmps10
  go_wp2_with (go_at_call 42; refine (spec_l01Same _ _ ha hb _).mono ?_; rintro e w' ⟨rfl, n, rfl⟩)
  go_ret
  exact .mk' _ rfl rfl

theorem impl_SameNumber (a b : Nat) (ha : W32 a) (hb : W32 b) (w : World) : Calls Tryz.prog 59 #[.float .f32 a, .float .f32 b] w (Ret (.bool (same a b)) w) := by
  cases na : (FloatKind.f32.format.order a a != some .eq) <;> cases nb : (FloatKind.f32.format.order b b != some .eq)
  · cases hab : (FloatKind.f32.format.order a b == some .eq)
    · have hs := Lib.hid (same_ne ha hb (by rw [← ne_self, na]) (by rw [← ne_self, nb]) hab)
      go_enter Tryz.func59, Tryz.ntmps59
      go_wp2
      go_ret
      exact .mk' 0 (bool_congr hs.out.symm) rfl
    · have hs := Lib.hid (same_eq ha hb (by rw [← ne_self, na]) (by rw [← ne_self, nb]) hab)
      have HA := Lib.hid (show nan FloatKind.f32.format a = false by rw [← ne_self, na])
      have HB := Lib.hid (show nan FloatKind.f32.format b = false by rw [← ne_self, nb])
      go_enter Tryz.func59, Tryz.ntmps59
      go_wp2_with fail
      refine (math_Signbit _ (cv_wide_lt _ _) _).mono ?_
      rintro e w' ⟨rfl, n, rfl⟩
      go_wp2_with fail
      refine (math_Signbit _ (cv_wide_lt _ _) _).mono ?_
      rintro e w' ⟨rfl, m, rfl⟩
      go_wp2
      go_ret
      exact .mk' _ (bool_congr (by rw [hs.out, ng_wide HA.out, ng_wide HB.out])) rfl
  · have hs := Lib.hid (same_nan_right (a := a) (b := b) (by rw [← ne_self, na]) (by rw [← ne_self, nb]))
    go_enter Tryz.func59, Tryz.ntmps59
    go_wp2
    go_ret
    exact .mk' 0 (bool_congr hs.out.symm) rfl
  · have hs := Lib.hid (same_nan_left (a := a) (b := b) (by rw [← ne_self, na]) (by rw [← ne_self, nb]))
    go_enter Tryz.func59, Tryz.ntmps59
    go_wp2
    go_ret
    exact .mk' 0 (bool_congr hs.out.symm) rfl
  · have hs := Lib.hid (same_nans (a := a) (b := b) (by rw [← ne_self, na]) (by rw [← ne_self, nb]))
    go_enter Tryz.func59, Tryz.ntmps59
    go_wp2
    go_ret
    exact .mk' 0 (bool_congr hs.out.symm) rfl

end Go.Proofs.YtcaceplnlfmejaaGreatDoor
