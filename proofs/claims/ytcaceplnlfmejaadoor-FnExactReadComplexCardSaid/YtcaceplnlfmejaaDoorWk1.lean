/- What the small functions on single numbers do: each returns what its Lean function says, and leaves the memory as it was; at most some answers are drawn (the bits of a not-a-number). -/
import Derived.Test.YtcaceplnlfmejaaDoorChecked
import Derived.Test.YtcaceplnlfmejaaDoorFlu
import Derived.WalkKit
import Derived.WalkLawsBesides
import Derived.Laws.Externs
import Derived.Lib.Hide
namespace Go.Proofs.YtcaceplnlfmejaaDoor
open Fl Go.RowKit

/-- The call returns v; the memory is as it was. -/
def Ret (v : Value) (w : World) (e : Ending) (w' : World) : Prop := e = .returned v ∧ ∃ n, w' = w.drewN n
theorem Ret.mk' {v v' : Value} {w w' : World} (n : Nat) (h : v = v') (hw : w' = w.drewN n) : Ret v' w (.returned v) w' := ⟨by rw [h], n, hw⟩
theorem bool_congr {a b : Bool} (h : a = b) : Value.bool a = Value.bool b := by rw [h]
theorem int_congr {k : IntKind} {a b : Int} (h : a = b) : Value.int k a = Value.int k b := by rw [h]
theorem float_congr {k : FloatKind} {a b : Nat} (h : a = b) : Value.float k a = Value.float k b := by rw [h]

theorem f32bits (b : Nat) (w : World) : (callFunc 91 #[.float .f32 b]).run Tryd.prog w = .ok (.value (.int .u32 b)) w := by
  rw [run_callFunc_extern Tryd.func91 (by kernel_rfl) (by kernel_rfl) (by kernel_rfl) (e := Extern.MathFloatBits.float32bits) (by kernel_rfl)]
  rfl

theorem f32from (n : Int) (w : World) : (callFunc 78 #[.int .u32 n]).run Tryd.prog w = .ok (.value (.float .f32 n.toNat)) w := by
  rw [run_callFunc_extern Tryd.func78 (by kernel_rfl) (by kernel_rfl) (by kernel_rfl) (e := Extern.MathFloatBits.float32frombits) (by kernel_rfl)]
  rfl



theorem impl_within_yes (n a b : Int) (h1 : a ≤ n) (h2 : n ≤ b) (w : World) : Calls Tryd.prog 66 #[.int .i64 n, .int .i64 a, .int .i64 b] w (Ret (.bool true) w) := by
  go_enter Tryd.func66, Tryd.ntmps66
  go_wp2
  go_ret
  exact .mk' 0 rfl rfl
theorem impl_within_no (n a b : Int) (h : n < a ∨ b < n) (w : World) : Calls Tryd.prog 66 #[.int .i64 n, .int .i64 a, .int .i64 b] w (Ret (.bool false) w) := by
  by_cases h1 : n < a
  · clear h
    go_enter Tryd.func66, Tryd.ntmps66
    go_wp2
    go_ret
    exact .mk' 0 rfl rfl
  · have h2 : decide (n ≤ b) = false := decide_eq_false (by omega)
    clear h
    go_enter Tryd.func66, Tryd.ntmps66
    go_wp2
    go_ret
    exact .mk' 0 rfl rfl

theorem spec_l00In_yes (n a b : Int) (h1 : a ≤ n) (h2 : n ≤ b) (w : World) : Calls Tryd.prog 65 #[.int .i64 n, .int .i64 a, .int .i64 b] w (Ret (.bool true) w) := by
  go_enter Tryd.func65, Tryd.ntmps65
  go_wp2
  go_ret
  exact .mk' 0 rfl rfl
theorem spec_l00In_no (n a b : Int) (h : n < a ∨ b < n) (w : World) : Calls Tryd.prog 65 #[.int .i64 n, .int .i64 a, .int .i64 b] w (Ret (.bool false) w) := by
  by_cases h1 : n < a
  · clear h
    go_enter Tryd.func65, Tryd.ntmps65
    go_wp2
    go_ret
    exact .mk' 0 rfl rfl
  · have h2 : decide (n ≤ b) = false := decide_eq_false (by omega)
    clear h
    go_enter Tryd.func65, Tryd.ntmps65
    go_wp2
    go_ret
    exact .mk' 0 rfl rfl




theorem spec_l01Bits (b : Nat) (hw : W32 b) (w : World) : Calls Tryd.prog 76 #[.float .f32 b] w (Ret (.int .i64 (bt b)) w) := by
  have hb := hw.le
  have k := f32bits
  cases h : nan FloatKind.f32.format b
  · have h' : (FloatKind.f32.format.order b b != some .eq) = false := by rw [ne_self, h]
    have H := Lib.hid h; clear h
    go_enter Tryd.func76, Tryd.ntmps76
    go_wp2
    go_ret
    exact .mk' 0 (int_congr (bt_not H.out).symm) rfl
  · have h' : (FloatKind.f32.format.order b b != some .eq) = true := by rw [ne_self, h]
    have H := Lib.hid h; clear h
    go_enter Tryd.func76, Tryd.ntmps76
    go_wp2
    go_ret
    exact .mk' 0 (int_congr (bt_nan H.out).symm) rfl

theorem impl_BitsOf (b : Nat) (hw : W32 b) (w : World) : Calls Tryd.prog 69 #[.float .f32 b] w (Ret (.int .i64 (bt b)) w) := by
  have hb := hw.le
  have k := f32bits
  cases h : nan FloatKind.f32.format b
  · have h' : (FloatKind.f32.format.order b b != some .eq) = false := by rw [ne_self, h]
    have H := Lib.hid h; clear h
    go_enter Tryd.func69, Tryd.ntmps69
    go_wp2
    go_ret
    exact .mk' 0 (int_congr (bt_not H.out).symm) rfl
  · have h' : (FloatKind.f32.format.order b b != some .eq) = true := by rw [ne_self, h]
    have H := Lib.hid h; clear h
    go_enter Tryd.func69, Tryd.ntmps69
    go_wp2
    go_ret
    exact .mk' 0 (int_congr (bt_nan H.out).symm) rfl









end Go.Proofs.YtcaceplnlfmejaaDoor
