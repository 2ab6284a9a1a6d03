/- What the small functions on single numbers do: each returns what its Lean function says, and leaves the memory as it was; at most some answers are drawn (the bits of a not-a-number). -/
import Derived.Test.YtjpbimfnppmbcaaChecked
import Derived.Test.YtjpbimfnppmbcaaFlu
import Derived.WalkKit
import Derived.WalkLawsBesides
import Derived.Laws.Externs
import Derived.Lib.Hide
namespace Go.Proofs.Ytjpbimfnppmbcaa
open Fl Go.RowKit

/-- The call returns v; the memory is as it was. -/
def Ret (v : Value) (w : World) (e : Ending) (w' : World) : Prop := e = .returned v ∧ ∃ n, w' = w.drewN n
theorem Ret.mk' {v v' : Value} {w w' : World} (n : Nat) (h : v = v') (hw : w' = w.drewN n) : Ret v' w (.returned v) w' := ⟨by rw [h], n, hw⟩
theorem bool_congr {a b : Bool} (h : a = b) : Value.bool a = Value.bool b := by rw [h]
theorem int_congr {k : IntKind} {a b : Int} (h : a = b) : Value.int k a = Value.int k b := by rw [h]
theorem float_congr {k : FloatKind} {a b : Nat} (h : a = b) : Value.float k a = Value.float k b := by rw [h]

theorem f32bits (b : Nat) (w : World) : (callFunc 87 #[.float .f32 b]).run Try.prog w = .ok (.value (.int .u32 b)) w := by
  rw [run_callFunc_extern Try.func87 (by kernel_rfl) (by kernel_rfl) (by kernel_rfl) (e := Extern.MathFloatBits.float32bits) (by kernel_rfl)]
  rfl

theorem f32from (n : Int) (w : World) : (callFunc 44 #[.int .u32 n]).run Try.prog w = .ok (.value (.float .f32 n.toNat)) w := by
  rw [run_callFunc_extern Try.func44 (by kernel_rfl) (by kernel_rfl) (by kernel_rfl) (e := Extern.MathFloatBits.float32frombits) (by kernel_rfl)]
  rfl

theorem f64bits (b : Nat) (w : World) : (callFunc 76 #[.float .f64 b]).run Try.prog w = .ok (.value (.int .u64 b)) w := by
  rw [run_callFunc_extern Try.func76 (by kernel_rfl) (by kernel_rfl) (by kernel_rfl) (e := Extern.MathFloatBits.float64bits) (by kernel_rfl)]
  rfl

theorem f64from (n : Int) (w : World) : (callFunc 75 #[.int .u64 n]).run Try.prog w = .ok (.value (.float .f64 n.toNat)) w := by
  rw [run_callFunc_extern Try.func75 (by kernel_rfl) (by kernel_rfl) (by kernel_rfl) (e := Extern.MathFloatBits.float64frombits) (by kernel_rfl)]
  rfl

theorem impl_within_yes (n a b : Int) (h1 : a ≤ n) (h2 : n ≤ b) (w : World) : Calls Try.prog 43 #[.int .i64 n, .int .i64 a, .int .i64 b] w (Ret (.bool true) w) := by
  go_enter Try.func43, Try.ntmps43
  go_wp2
  go_ret
  exact .mk' 0 rfl rfl
theorem impl_within_no (n a b : Int) (h : n < a ∨ b < n) (w : World) : Calls Try.prog 43 #[.int .i64 n, .int .i64 a, .int .i64 b] w (Ret (.bool false) w) := by
  by_cases h1 : n < a
  · clear h
    go_enter Try.func43, Try.ntmps43
    go_wp2
    go_ret
    exact .mk' 0 rfl rfl
  · have h2 : decide (n ≤ b) = false := decide_eq_false (by omega)
    clear h
    go_enter Try.func43, Try.ntmps43
    go_wp2
    go_ret
    exact .mk' 0 rfl rfl

theorem spec_l00In_yes (n a b : Int) (h1 : a ≤ n) (h2 : n ≤ b) (w : World) : Calls Try.prog 41 #[.int .i64 n, .int .i64 a, .int .i64 b] w (Ret (.bool true) w) := by
  go_enter Try.func41, Try.ntmps41
  go_wp2
  go_ret
  exact .mk' 0 rfl rfl
theorem spec_l00In_no (n a b : Int) (h : n < a ∨ b < n) (w : World) : Calls Try.prog 41 #[.int .i64 n, .int .i64 a, .int .i64 b] w (Ret (.bool false) w) := by
  by_cases h1 : n < a
  · clear h
    go_enter Try.func41, Try.ntmps41
    go_wp2
    go_ret
    exact .mk' 0 rfl rfl
  · have h2 : decide (n ≤ b) = false := decide_eq_false (by omega)
    clear h
    go_enter Try.func41, Try.ntmps41
    go_wp2
    go_ret
    exact .mk' 0 rfl rfl

theorem spec_l01Finite (b : Nat) (w : World) : Calls Try.prog 45 #[.float .f32 b] w (Ret (.bool (finb FloatKind.f32.format b)) w) := by
  go_enter Try.func45, Try.ntmps45
  go_wp2
  go_ret
  exact .mk' _ (bool_congr (self_sub _ _ _)) rfl


theorem impl_IsFinite (b : Nat) (w : World) : Calls Try.prog 55 #[.float .f32 b] w (Ret (.bool (finb FloatKind.f32.format b)) w) := by
  go_enter Try.func55, Try.ntmps55
  go_wp2
  go_ret
  exact .mk' _ (bool_congr (self_sub _ _ _)) rfl

theorem spec_l01Bits (b : Nat) (hw : W32 b) (w : World) : Calls Try.prog 74 #[.float .f32 b] w (Ret (.int .i64 (bt b)) w) := by
  have hb := hw.le
  have k := f32bits
  cases h : nan FloatKind.f32.format b
  · have h' : (FloatKind.f32.format.order b b != some .eq) = false := by rw [ne_self, h]
    have H := Lib.hid h; clear h
    go_enter Try.func74, Try.ntmps74
    go_wp2
    go_ret
    exact .mk' 0 (int_congr (bt_not H.out).symm) rfl
  · have h' : (FloatKind.f32.format.order b b != some .eq) = true := by rw [ne_self, h]
    have H := Lib.hid h; clear h
    go_enter Try.func74, Try.ntmps74
    go_wp2
    go_ret
    exact .mk' 0 (int_congr (bt_nan H.out).symm) rfl



theorem math_Abs (b : Nat) (hb : W64 b) (w : World) : Calls Try.prog 68 #[.float .f64 b] w (Ret (.float .f64 (absd b)) w) := by
  have hb' := hb.le
  have k := f64bits
  have k2 := f64from
  go_enter Try.func68, Try.ntmps68
  go_wp2
  go_ret
  exact .mk' 0 (float_congr (absd_eq hb)) rfl


theorem impl_IsSubnormal (b : Nat) (hw : W32 b) (w : World) : Calls Try.prog 50 #[.float .f32 b] w (Ret (.bool (sub b)) w) := by
  have hb := hw.le
  cases h : (FloatKind.f32.format.order b 0 != some .eq)
  · have hs := Lib.hid (sub_of_zero (b := b) (by rw [← h, ne_zero]))
    go_enter Try.func50, Try.ntmps50
    go_wp2
    go_ret
    exact .mk' 0 (bool_congr hs.out.symm) rfl
  · have hs := Lib.hid (sub_of_ne (b := b) (by rw [← h, ne_zero]))
    go_enter Try.func50, Try.ntmps50
    go_wp2_with (go_at_call 68; refine (math_Abs _ (cv_wide_lt _ _) _).mono ?_; rintro e w' ⟨rfl, n, rfl⟩)
    go_ret
    exact .mk' _ (bool_congr (by rw [hs.out]; exact below_least _ _)) rfl


theorem spec_l01Same (a b : Nat) (ha : W32 a) (hb : W32 b) (w : World) : Calls Try.prog 71 #[.float .f32 a, .float .f32 b] w (Ret (.bool (same a b)) w) := by
  go_enter Try.func71, Try.ntmps71
  go_wp2_with fail
  refine (spec_l01Bits _ ha _).mono ?_
  rintro e w' ⟨rfl, n, rfl⟩
  go_wp2_with fail
  refine (spec_l01Bits _ hb _).mono ?_
  rintro e w' ⟨rfl, m, rfl⟩
  go_wp2
  go_ret
  exact .mk' _ rfl rfl

theorem spec_SameNumber (a b : Nat) (ha : W32 a) (hb : W32 b) (w : World) : Calls Try.prog 40 #[.float .f32 a, .float .f32 b] w (Ret (.bool (same a b)) w) := by
  go_enter Try.func40, Try.ntmps40
  go_wp2_with (go_at_call 71; refine (spec_l01Same _ _ ha hb _).mono ?_; rintro e w' ⟨rfl, n, rfl⟩)
  go_ret
  exact .mk' _ rfl rfl


end Go.Proofs.Ytjpbimfnppmbcaa
