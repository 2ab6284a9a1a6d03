/- Roots and wrapped angles: the walks of the reference, of the program and of the laws. -/
import Derived.Test.YtjpbimfnppmbcaaWk4
import Derived.Test.YtjpbimfnppmbcaaFlv
namespace Go.Proofs.Ytjpbimfnppmbcaa
open Fl Go.RowKit

/-- The call returns a float of this class; the memory is as it was. -/
def RetK (k : FloatKind) (c : Option Nat) (w : World) (e : Ending) (w' : World) : Prop := ∃ r, e = .returned (.float k r) ∧ cls k r = c ∧ ∃ n, w' = w.drewN n
theorem RetK.mk' {k : FloatKind} {r : Nat} {c : Option Nat} {w w' : World} (n : Nat) (h : cls k r = c) (hw : w' = w.drewN n) : RetK k c w (.returned (.float k r)) w' := ⟨r, rfl, h, n, hw⟩

theorem math_sqrt_run (x : Nat) (w : World) : (callFunc 78 #[.float .f64 x]).run Try.prog w = .ok (.value (.float .f64 (sq x w))) (w.drewN (sqd x)) := by
  rw [run_callFunc_extern Try.func78 (by kernel_rfl) (by kernel_rfl) (by kernel_rfl) (e := Extern.MathSqrt.sqrt) (by kernel_rfl), run_sqrt_entry]
  rfl

theorem math_floor_run (x : Nat) (hx : nan Ieee.double x = false) (w : World) : (callFunc 83 #[.float .f64 x]).run Try.prog w = .ok (.value (.float .f64 (flo x))) w := by
  rw [run_callFunc_extern Try.func83 (by kernel_rfl) (by kernel_rfl) (by kernel_rfl) (e := Extern.MathFloor.toIntegral "math.archFloor" .down) (by kernel_rfl), run_integral _ _ _ hx]
  rfl

theorem math_trunc_run (x : Nat) (hx : nan Ieee.double x = false) (w : World) : (callFunc 88 #[.float .f64 x]).run Try.prog w = .ok (.value (.float .f64 (trn x))) w := by
  rw [run_callFunc_extern Try.func88 (by kernel_rfl) (by kernel_rfl) (by kernel_rfl) (e := Extern.MathFloor.toIntegral "math.archTrunc" .zero) (by kernel_rfl), run_integral _ _ _ hx]
  rfl

theorem math_Sqrt (x : Nat) (w : World) : Calls Try.prog 53 #[.float .f64 x] w (fun e w' => e = .returned (.float .f64 (sq x w)) ∧ w' = w.drewN (sqd x)) := by
  have k := math_sqrt_run
  go_enter Try.func53, Try.ntmps53
  go_wp2
  go_ret
  exact ⟨rfl, rfl⟩

theorem math_Floor (x : Nat) (hx : nan Ieee.double x = false) (w : World) : Calls Try.prog 65 #[.float .f64 x] w (Ret (.float .f64 (flo x)) w) := by
  have k := math_floor_run x hx
  go_enter Try.func65, Try.ntmps65
  go_wp2
  go_ret
  exact .mk' 0 rfl rfl

theorem math_Trunc (x : Nat) (hx : nan Ieee.double x = false) (w : World) : Calls Try.prog 80 #[.float .f64 x] w (Ret (.float .f64 (trn x)) w) := by
  have k := math_trunc_run x hx
  go_enter Try.func80, Try.ntmps80
  go_wp2
  go_ret
  exact .mk' 0 rfl rfl

/-- The root of a single, narrowed. -/
def rootC (x : Nat) : Option Nat := (((cls .f32 x).map (tr .f32 .f64)).bind Ieee.double.sqrt).map (tr .f64 .f32)
theorem rootC_eq (x : Nat) (w1 w2 w3 : World) : cls .f32 (cv .f64 (sq (cv .f32 x .f64 w1) w2) .f32 w3) = rootC x := by
  rw [cls_cv _ (by decide) (sq_fits x w1 w2), cls_sq, cls_widen]; rfl

theorem spec_l01Narrow (x : Nat) (w : World) : Calls Try.prog 77 #[.float .f64 x] w (fun e w' => ∃ w1, e = .returned (.float .f32 (cv .f64 x .f32 w1)) ∧ ∃ n, w' = w.drewN n) := by
  go_enter Try.func77, Try.ntmps77
  go_wp2
  go_ret
  exact ⟨_, rfl, _, rfl⟩

theorem spec_l01Sqrt (x : Nat) (w : World) : Calls Try.prog 52 #[.float .f32 x] w (RetK .f32 (rootC x) w) := by
  go_enter Try.func52, Try.ntmps52
  go_wp2_with fail
  refine (math_Sqrt _ _).mono ?_
  rintro e w' ⟨rfl, rfl⟩
  go_wp2_with fail
  refine (spec_l01Narrow _ _).mono ?_
  rintro e w' ⟨w3, rfl, n, rfl⟩
  go_wp2
  go_ret
  exact .mk' _ (rootC_eq _ _ _ _) rfl

theorem spec_RootNumber (x : Nat) (w : World) : Calls Try.prog 20 #[.float .f32 x] w (RetK .f32 (rootC x) w) := by
  go_enter Try.func20, Try.ntmps20
  go_wp2_with fail
  refine (spec_l01Sqrt _ _).mono ?_
  rintro e w' ⟨r, rfl, hr, n, rfl⟩
  have HR := Lib.hid hr; clear hr
  go_wp2
  go_ret
  exact .mk' _ HR.out rfl

theorem impl_RootNumber (x : Nat) (w : World) : Calls Try.prog 21 #[.float .f32 x] w (RetK .f32 (rootC x) w) := by
  go_enter Try.func21, Try.ntmps21
  go_wp2_with fail
  refine (math_Sqrt _ _).mono ?_
  rintro e w' ⟨rfl, rfl⟩
  go_wp2
  go_ret
  exact .mk' _ (rootC_eq _ _ _ _) rfl

theorem law_RootNumber (x : Nat) (w : World) : Calls Try.prog 6 #[.float .f32 x] w (Ret (.bool true) w) := by
  go_enter Try.func6, Try.ntmps6
  go_wp2_with fail
  refine (spec_RootNumber _ _).mono ?_
  rintro e w' ⟨r, rfl, hr, n, rfl⟩
  have HR := Lib.hid hr; clear hr
  go_wp2_with fail
  refine (impl_RootNumber _ _).mono ?_
  rintro e w' ⟨s, rfl, hs, n', rfl⟩
  have HS := Lib.hid hs; clear hs
  go_wp2_with fail
  refine (sameFloat_w _ _ (HS.out.trans HR.out.symm) _ _ _).mono ?_
  rintro e w' ⟨rfl, n'', rfl⟩
  go_wp2
  go_ret
  exact .mk' _ rfl rfl

/-- The wrapped angle of a finite number. -/
def wrapS (x : Nat) : Nat := opw .add (tr .f32 .f64 x) 0x3FE0000000000000
def wrapD (x : Nat) : Nat := opw .sub (tr .f32 .f64 x) (flo (wrapS x))
def wrapT (x : Nat) : Nat := tr .f64 .f32 (wrapD x)
def wrapW (x : Nat) : Nat := if FloatKind.f32.format.order (wrapT x) 0x3F000000 == some .gt || FloatKind.f32.format.order (wrapT x) 0x3F000000 == some .eq then 0xBF000000 else wrapT x
theorem wrap_words {x : Nat} (hx : fin Ieee.single x) : (∀ w, cv .f32 x .f64 w = tr .f32 .f64 x) ∧ (∀ w, fa .add .f64 (tr .f32 .f64 x) 0x3FE0000000000000 w = wrapS x) ∧ nan Ieee.double (wrapS x) = false ∧
    (∀ w, fa .sub .f64 (tr .f32 .f64 x) (flo (wrapS x)) w = wrapD x) ∧ (∀ w, cv .f64 (wrapD x) .f32 w = wrapT x) := by
  obtain ⟨s, d, h1, f1, h2, f2, f3⟩ := wrap_fin hx
  have h1 : floatBits .add .f64 (tr .f32 .f64 x) 0x3FE0000000000000 = some s := h1
  have h2 : floatBits .sub .f64 (tr .f32 .f64 x) (flo s) = some d := h2
  have e1 : wrapS x = s := opw_some h1
  have e2 : wrapD x = d := by unfold wrapD; rw [e1]; exact opw_some h2
  refine ⟨fun w => cv_wide (not_nan_of_fin hx) w, fun w => by rw [e1]; exact fa_some h1 w, by rw [e1]; exact not_nan_of_fin f1, fun w => by rw [e2, e1]; exact fa_some h2 w, fun w => ?_⟩
  unfold wrapT
  rw [e2]
  have hc := cls_cv (s := .f64) (d := .f32) (b := d) w (by decide) (fun _ => f3)
  rw [cls_fin (k := .f64) f2] at hc
  unfold cls at hc
  split at hc
  · cases hc
  · exact Option.some.inj hc
def wrapB (t : Nat) : Bool := FloatKind.f32.format.order t 0x3F000000 == some .gt || FloatKind.f32.format.order t 0x3F000000 == some .eq
theorem wrapW_yes {x : Nat} (h : wrapB (wrapT x) = true) : wrapW x = 0xBF000000 := by unfold wrapB at h; unfold wrapW; rw [h]; rfl
theorem wrapW_no {x : Nat} (h : wrapB (wrapT x) = false) : wrapW x = wrapT x := by unfold wrapB at h; unfold wrapW; rw [h]; rfl

theorem spec_l02Wrap (x : Nat) (hx : finb FloatKind.f32.format x = true) (w : World) : Calls Try.prog 59 #[.float .f32 x] w (Ret (.float .f32 (wrapW x)) w) := by
  obtain ⟨k1, k2, k3, k4, k5⟩ := wrap_words (finb_iff.1 hx)
  clear hx
  have HY := Lib.hid (wrapW_yes (x := x)); have HN := Lib.hid (wrapW_no (x := x))
  generalize wrapS x = s at *
  generalize wrapD x = d at *
  generalize wrapT x = t at *
  cases hb : wrapB t
  · have H := Lib.hid (HN.out hb); unfold wrapB at hb; clear HY HN
    go_enter Try.func59, Try.ntmps59
    go_wp2_with fail
    refine (math_Floor _ k3 _).mono ?_
    rintro e w' ⟨rfl, n, rfl⟩
    go_wp2_with fail
    refine (spec_l01Narrow _ _).mono ?_
    rintro e w' ⟨w1, rfl, n', rfl⟩
    go_wp2
    go_ret
    exact .mk' _ (float_congr (by rw [H.out])) rfl
  · have H := Lib.hid (HY.out hb); unfold wrapB at hb; clear HY HN
    go_enter Try.func59, Try.ntmps59
    go_wp2_with fail
    refine (math_Floor _ k3 _).mono ?_
    rintro e w' ⟨rfl, n, rfl⟩
    go_wp2_with fail
    refine (spec_l01Narrow _ _).mono ?_
    rintro e w' ⟨w1, rfl, n', rfl⟩
    go_wp2
    go_ret
    exact .mk' _ (float_congr (by rw [H.out])) rfl

theorem impl_wrapAngle (x : Nat) (hx : finb FloatKind.f32.format x = true) (w : World) : Calls Try.prog 60 #[.float .f32 x] w (Ret (.float .f32 (wrapW x)) w) := by
  obtain ⟨k1, k2, k3, k4, k5⟩ := wrap_words (finb_iff.1 hx)
  clear hx
  have HY := Lib.hid (wrapW_yes (x := x)); have HN := Lib.hid (wrapW_no (x := x))
  generalize wrapS x = s at *
  generalize wrapD x = d at *
  generalize wrapT x = t at *
  cases hb : wrapB t
  · have H := Lib.hid (HN.out hb); unfold wrapB at hb; clear HY HN
    go_enter Try.func60, Try.ntmps60
    go_wp2_with fail
    refine (math_Floor _ k3 _).mono ?_
    rintro e w' ⟨rfl, n, rfl⟩
    go_wp2
    go_ret
    exact .mk' _ (float_congr (by rw [H.out])) rfl
  · have H := Lib.hid (HY.out hb); unfold wrapB at hb; clear HY HN
    go_enter Try.func60, Try.ntmps60
    go_wp2_with fail
    refine (math_Floor _ k3 _).mono ?_
    rintro e w' ⟨rfl, n, rfl⟩
    go_wp2
    go_ret
    exact .mk' _ (float_congr (by rw [H.out])) rfl

theorem spec_WrapAngle_yes (x : Nat) (hx : finb FloatKind.f32.format x = true) (w : World) : Calls Try.prog 24 #[.float .f32 x] w (Ret (.tuple #[.float .f32 (wrapW x), .bool true]) w) := by
  have HX := Lib.hid hx; clear hx
  go_enter Try.func24, Try.ntmps24
  go_wp2_with (first | (go_at_call 45; refine (spec_l01Finite _ _).mono ?_; rintro e w' ⟨rfl, n, rfl⟩; rw [HX.out]) | (go_at_call 59; refine (spec_l02Wrap _ HX.out _).mono ?_; rintro e w' ⟨rfl, n, rfl⟩))
  go_ret2
  exact .mk' _ rfl rfl
theorem spec_WrapAngle_no (x : Nat) (hx : finb FloatKind.f32.format x = false) (w : World) : Calls Try.prog 24 #[.float .f32 x] w (Ret (.tuple #[.float .f32 0, .bool false]) w) := by
  have HX := Lib.hid hx; clear hx
  go_enter Try.func24, Try.ntmps24
  go_wp2_with (go_at_call 45; refine (spec_l01Finite _ _).mono ?_; rintro e w' ⟨rfl, n, rfl⟩; rw [HX.out])
  go_ret2
  exact .mk' _ rfl rfl

theorem impl_WrapAngle_yes (x : Nat) (hx : finb FloatKind.f32.format x = true) (w : World) : Calls Try.prog 25 #[.float .f32 x] w (Ret (.tuple #[.float .f32 (wrapW x), .bool true]) w) := by
  have HX := Lib.hid hx; clear hx
  go_enter Try.func25, Try.ntmps25
  go_wp2_with (first | (go_at_call 55; refine (impl_IsFinite _ _).mono ?_; rintro e w' ⟨rfl, n, rfl⟩; rw [HX.out]) | (go_at_call 60; refine (impl_wrapAngle _ HX.out _).mono ?_; rintro e w' ⟨rfl, n, rfl⟩))
  go_ret2
  exact .mk' _ rfl rfl
theorem impl_WrapAngle_no (x : Nat) (hx : finb FloatKind.f32.format x = false) (w : World) : Calls Try.prog 25 #[.float .f32 x] w (Ret (.tuple #[.float .f32 0, .bool false]) w) := by
  have HX := Lib.hid hx; clear hx
  go_enter Try.func25, Try.ntmps25
  go_wp2_with (go_at_call 55; refine (impl_IsFinite _ _).mono ?_; rintro e w' ⟨rfl, n, rfl⟩; rw [HX.out])
  go_ret2
  exact .mk' _ rfl rfl

theorem law_WrapAngle (x : Nat) (w : World) : Calls Try.prog 8 #[.float .f32 x] w (Ret (.bool true) w) := by
  cases h : finb FloatKind.f32.format x
  · have H := Lib.hid h; clear h
    go_enter Try.func8, Try.ntmps8
    go_wp2_with (first | (go_at_call 24; refine (spec_WrapAngle_no _ H.out _).mono ?_; rintro e w' ⟨rfl, m, rfl⟩) | (go_at_call 25; refine (impl_WrapAngle_no _ H.out _).mono ?_; rintro e w' ⟨rfl, m, rfl⟩) | (go_at_call 15; refine (sameFloat_w _ _ rfl _ _ _).mono ?_; rintro e w' ⟨rfl, m, rfl⟩))
    go_ret
    exact .mk' _ rfl rfl
  · have H := Lib.hid h; clear h
    go_enter Try.func8, Try.ntmps8
    go_wp2_with (first | (go_at_call 24; refine (spec_WrapAngle_yes _ H.out _).mono ?_; rintro e w' ⟨rfl, m, rfl⟩) | (go_at_call 25; refine (impl_WrapAngle_yes _ H.out _).mono ?_; rintro e w' ⟨rfl, m, rfl⟩) | (go_at_call 15; refine (sameFloat_w _ _ rfl _ _ _).mono ?_; rintro e w' ⟨rfl, m, rfl⟩))
    go_ret
    exact .mk' _ rfl rfl

end Go.Proofs.Ytjpbimfnppmbcaa
