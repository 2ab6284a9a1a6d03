/- Products and powers of complex numbers, by classes. -/
import Derived.Test.YtjpbimfnppmbcaaWk3
namespace Go.Proofs.Ytjpbimfnppmbcaa
open Fl Go.RowKit

/-- The class of the widened number; of the narrowed one. -/
def wC (x : Nat) : Option Nat := (cls .f32 x).map (tr .f32 .f64)
def nC (o : Option Nat) : Option Nat := o.map (tr .f64 .f32)
def fitC (o : Option Nat) : Prop := ∀ b, o = some b → fits .f64 .f32 b
theorem cls_nC {b : Nat} (h : fitC (cls .f64 b)) (w : World) : cls .f32 (cv .f64 b .f32 w) = nC (cls .f64 b) :=
  cls_cv w (by decide) (fun hf => h b (cls_fin (k := .f64) hf) hf)
theorem cls_wC (x : Nat) (w : World) : cls .f64 (cv .f32 x .f64 w) = wC x := cls_widen x w
def reC (a b c d : Nat) : Option Nat := cop .sub .f64 (cop .mul .f64 (wC a) (wC c)) (cop .mul .f64 (wC b) (wC d))
def imC (a b c d : Nat) : Option Nat := cop .add .f64 (cop .mul .f64 (wC a) (wC d)) (cop .mul .f64 (wC b) (wC c))
def pwC (a b : Nat) : Option Nat := cop .add .f64 (cop .mul .f64 (wC a) (wC a)) (cop .mul .f64 (wC b) (wC b))
/-- The call returns a complex number of these classes; the memory is as it was. -/
def RetXw (c1 c2 : Option Nat) (w : World) (e : Ending) (w' : World) : Prop := ∃ r i, e = .returned (.complex .f32 r i) ∧ cls .f32 r = c1 ∧ cls .f32 i = c2 ∧ W32 r ∧ W32 i ∧ ∃ n, w' = w.drewN n
theorem RetXw.mk' {r i : Nat} {c1 c2 : Option Nat} {w w' : World} (n : Nat) (h1 : cls .f32 r = c1) (h2 : cls .f32 i = c2) (hr : W32 r) (hi : W32 i) (hw : w' = w.drewN n) : RetXw c1 c2 w (.returned (.complex .f32 r i)) w' := ⟨r, i, rfl, h1, h2, hr, hi, n, hw⟩
/-- The call returns a float of this class. -/
def RetKn (k : FloatKind) (c : Option Nat) (w : World) (e : Ending) (w' : World) : Prop := ∃ r, e = .returned (.float k r) ∧ cls k r = c ∧ r < 2 ^ k.format.width ∧ ∃ n, w' = w.drewN n
theorem RetKn.mk' {k : FloatKind} {r : Nat} {c : Option Nat} {w w' : World} (n : Nat) (h1 : cls k r = c) (hr : r < 2 ^ k.format.width) (hw : w' = w.drewN n) : RetKn k c w (.returned (.float k r)) w' := ⟨r, rfl, h1, hr, n, hw⟩

theorem impl_times (a b c d : Nat) (w : World) : Calls Try.prog 70 #[.complex .f32 a b, .complex .f32 c d] w (fun e w' => ∃ u v, e = .returned (.tuple #[.float .f64 u, .float .f64 v]) ∧ cls .f64 u = reC a b c d ∧ cls .f64 v = imC a b c d ∧ ∃ n, w' = w.drewN n) := by
  go_enter Try.func70, Try.ntmps70
  go_wp2
  go_ret2
  exact ⟨_, _, rfl, by simp only [cls_fa, cls_wC]; rfl, by simp only [cls_fa, cls_wC]; rfl, _, rfl⟩

theorem impl_MulComplex (a b c d : Nat) (h1 : fitC (reC a b c d)) (h2 : fitC (imC a b c d)) (w : World) : Calls Try.prog 39 #[.complex .f32 a b, .complex .f32 c d] w (RetXw (nC (reC a b c d)) (nC (imC a b c d)) w) := by
  have H1 := Lib.hid h1; have H2 := Lib.hid h2
  clear h1 h2
  go_enter Try.func39, Try.ntmps39
  go_wp2_with fail
  refine (impl_times _ _ _ _ _).mono ?_
  rintro e w1 ⟨u, v, rfl, hu, hv, n, rfl⟩
  have HU := Lib.hid hu; have HV := Lib.hid hv
  clear hu hv
  go_wp2
  go_ret
  exact .mk' _ (by rw [cls_nC (by rw [HU.out]; exact H1.out), HU.out]) (by rw [cls_nC (by rw [HV.out]; exact H2.out), HV.out]) (cv_narrow_lt _ _) (cv_narrow_lt _ _) rfl

theorem impl_power (a b : Nat) (w : World) : Calls Try.prog 69 #[.complex .f32 a b] w (RetKn .f64 (pwC a b) w) := by
  go_enter Try.func69, Try.ntmps69
  go_wp2
  go_ret
  exact .mk' _ (by simp only [cls_fa, cls_wC]; rfl) (fa_lt _ _ _ _ _) rfl

theorem impl_PowerOf (a b : Nat) (h : fitC (pwC a b)) (w : World) : Calls Try.prog 37 #[.complex .f32 a b] w (RetKn .f32 (nC (pwC a b)) w) := by
  have H := Lib.hid h
  clear h
  go_enter Try.func37, Try.ntmps37
  go_wp2_with fail
  refine (impl_power _ _ _).mono ?_
  rintro e w1 ⟨u, rfl, hu, _, n, rfl⟩
  have HU := Lib.hid hu
  clear hu
  go_wp2
  go_ret
  exact .mk' _ (by rw [cls_nC (by rw [HU.out]; exact H.out), HU.out]) (cv_narrow_lt _ _) rfl

end Go.Proofs.Ytjpbimfnppmbcaa
