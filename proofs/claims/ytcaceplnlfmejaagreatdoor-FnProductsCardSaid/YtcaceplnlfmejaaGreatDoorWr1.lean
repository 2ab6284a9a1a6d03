/- Roots and wrapped angles: the walks of the reference, of the program and of the laws. -/
import Derived.Test.YtcaceplnlfmejaaGreatDoorWk4
import Derived.Test.YtcaceplnlfmejaaGreatDoorFlv
namespace Go.Proofs.YtcaceplnlfmejaaGreatDoor
open Fl Go.RowKit

/-- The call returns a float of this class; the memory is as it was. -/
def RetK (k : FloatKind) (c : Option Nat) (w : World) (e : Ending) (w' : World) : Prop := ∃ r, e = .returned (.float k r) ∧ cls k r = c ∧ ∃ n, w' = w.drewN n
theorem RetK.mk' {k : FloatKind} {r : Nat} {c : Option Nat} {w w' : World} (n : Nat) (h : cls k r = c) (hw : w' = w.drewN n) : RetK k c w (.returned (.float k r)) w' := ⟨r, rfl, h, n, hw⟩

theorem math_sqrt_run (x : Nat) (w : World) : (callFunc 72 #[.float .f64 x]).run Tryz.prog w = .ok (.value (.float .f64 (sq x w))) (w.drewN (sqd x)) := by
  rw [run_callFunc_extern Tryz.func72 (by kernel_rfl) (by kernel_rfl) (by kernel_rfl) (e := Extern.MathSqrt.sqrt) (by kernel_rfl), run_sqrt_entry]
  rfl


theorem math_trunc_run (x : Nat) (hx : nan Ieee.double x = false) (w : World) : (callFunc 118 #[.float .f64 x]).run Tryz.prog w = .ok (.value (.float .f64 (trn x))) w := by
  rw [run_callFunc_extern Tryz.func118 (by kernel_rfl) (by kernel_rfl) (by kernel_rfl) (e := Extern.MathFloor.toIntegral "math.archTrunc" .zero) (by kernel_rfl), run_integral _ _ _ hx]
  rfl

theorem math_Sqrt (x : Nat) (w : World) : Calls Tryz.prog 43 #[.float .f64 x] w (fun e w' => e = .returned (.float .f64 (sq x w)) ∧ w' = w.drewN (sqd x)) := by
  have k := math_sqrt_run
  go_enter Tryz.func43, Tryz.ntmps43
  go_wp2
  go_ret
  exact ⟨rfl, rfl⟩


theorem math_Trunc (x : Nat) (hx : nan Ieee.double x = false) (w : World) : Calls Tryz.prog 99 #[.float .f64 x] w (Ret (.float .f64 (trn x)) w) := by
  have k := math_trunc_run x hx
  go_enter Tryz.func99, Tryz.ntmps99
  go_wp2
  go_ret
  exact .mk' 0 rfl rfl

/-- The root of a single, narrowed. -/
def rootC (x : Nat) : Option Nat := (((cls .f32 x).map (tr .f32 .f64)).bind Ieee.double.sqrt).map (tr .f64 .f32)
theorem rootC_eq (x : Nat) (w1 w2 w3 : World) : cls .f32 (cv .f64 (sq (cv .f32 x .f64 w1) w2) .f32 w3) = rootC x := by
  rw [cls_cv _ (by decide) (sq_fits x w1 w2), cls_sq, cls_widen]; rfl

theorem spec_l01Narrow (x : Nat) (w : World) : Calls Tryz.prog 73 #[.float .f64 x] w (fun e w' => ∃ w1, e = .returned (.float .f32 (cv .f64 x .f32 w1)) ∧ ∃ n, w' = w.drewN n) := by
  go_enter Tryz.func73, Tryz.ntmps73
  go_wp2
  go_ret
  exact ⟨_, rfl, _, rfl⟩

theorem spec_l01Sqrt (x : Nat) (w : World) : Calls Tryz.prog 44 #[.float .f32 x] w (RetK .f32 (rootC x) w) := by
  go_enter Tryz.func44, Tryz.ntmps44
  go_wp2_with fail
  refine (math_Sqrt _ _).mono ?_
  rintro e w' ⟨rfl, rfl⟩
  go_wp2_with fail
  refine (spec_l01Narrow _ _).mono ?_
  rintro e w' ⟨w3, rfl, n, rfl⟩
  go_wp2
  go_ret
  exact .mk' _ (rootC_eq _ _ _ _) rfl

theorem spec_RootNumber (x : Nat) (w : World) : Calls Tryz.prog 12 #[.float .f32 x] w (RetK .f32 (rootC x) w) := by
  go_enter Tryz.func12, Tryz.ntmps12
  go_wp2_with fail
  refine (spec_l01Sqrt _ _).mono ?_
  rintro e w' ⟨r, rfl, hr, n, rfl⟩
  have HR := Lib.hid hr; clear hr
  go_wp2
  go_ret
  exact .mk' _ HR.out rfl



/-- The wrapped angle of a finite number. -/
def wrapS (x : Nat) : Nat := opw .add (tr .f32 .f64 x) 0x3FE0000000000000
def wrapD (x : Nat) : Nat := opw .sub (tr .f32 .f64 x) (flo (wrapS x))
def wrapT (x : Nat) : Nat := tr .f64 .f32 (wrapD x)
def wrapW (x : Nat) : Nat := if FloatKind.f32.format.order (wrapT x) 0x3F000000 == some .gt || FloatKind.f32.format.order (wrapT x) 0x3F000000 == some .eq then 0xBF000000 else wrapT x
theorem wrap_words {x : Nat} (hx : fin Ieee.single x) : (∀ w, cv .f32 x .f64 w = tr .f32 .f64 x) ∧ (∀ w, fa .add .f64 (tr .f32 .f64 x) 0x3FE0000000000000 w = wrapS x) ∧ nan Ieee.double (wrapS x) = false ∧
    (∀ w, fa .sub .f64 (tr .f32 .f64 x) (flo (wrapS x)) w = wrapD x) ∧ (∀ w, cv .f64 (wrapD x) .f32 w = wrapT x) := by
  obtain ⟨s, d, h1, f1, h2, f2, f3⟩ := wrap_fin hx
  have h1 : floatBits .add .f64 (tr .f32 .f64 x) 0x3FE0000000000000 = some s := h1
  have h2 : floatBits .sub .f64 (tr .f32 .f64 x) (flo s) = some d := h2
  have e1 : wrapS x = s := opw_some h1
  have e2 : wrapD x = d := by unfold wrapD; rw [e1]; exact opw_some h2
  refine ⟨fun w => cv_wide (not_nan_of_fin hx) w, fun w => by rw [e1]; exact fa_some h1 w, by rw [e1]; exact not_nan_of_fin f1, fun w => by rw [e2, e1]; exact fa_some h2 w, fun w => ?_⟩
  unfold wrapT
  rw [e2]
  have hc := cls_cv (s := .f64) (d := .f32) (b := d) w (by decide) (fun _ => f3)
  rw [cls_fin (k := .f64) f2] at hc
  unfold cls at hc
  split at hc
  · cases hc
  · exact Option.some.inj hc
def wrapB (t : Nat) : Bool := FloatKind.f32.format.order t 0x3F000000 == some .gt || FloatKind.f32.format.order t 0x3F000000 == some .eq
theorem wrapW_yes {x : Nat} (h : wrapB (wrapT x) = true) : wrapW x = 0xBF000000 := by unfold wrapB at h; unfold wrapW; rw [h]; rfl
theorem wrapW_no {x : Nat} (h : wrapB (wrapT x) = false) : wrapW x = wrapT x := by unfold wrapB at h; unfold wrapW; rw [h]; rfl






end Go.Proofs.YtcaceplnlfmejaaGreatDoor
