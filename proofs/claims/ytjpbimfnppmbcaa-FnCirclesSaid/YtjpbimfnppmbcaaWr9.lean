/- The law of phasors. -/
import Derived.Test.YtjpbimfnppmbcaaWr8
namespace Go.Proofs.Ytjpbimfnppmbcaa
open Fl Go.RowKit

theorem spec_l01Phasor (y : Nat) (hy : y < 2 ^ 64) (w : World) : Calls Try.prog 61 #[.float .f64 y] w (RetX (phR y) w) := by
  cases hf : finb FloatKind.f64.format y
  · have k : ∀ w, (FloatKind.f64.format.order (fa .sub .f64 y y w) 0 != some .eq) = true := fun w => by rw [fin_tests, hf]; rfl
    rw [phR_nan hf]
    clear hf
    go_enter Try.func61, Try.ntmps61
    go_wp2_with fail
    refine (spec_l01From _ (by omega) (by omega) _).mono ?_
    rintro e w' ⟨rfl, n, rfl⟩
    go_wp2_with fail
    refine (spec_l01From _ (by omega) (by omega) _).mono ?_
    rintro e w' ⟨rfl, n2, rfl⟩
    go_wp2
    go_ret
    exact .mk' _ (cls_none (k := .f32) nan_const) (cls_none (k := .f32) nan_const) rfl
  · by_cases hs : small y
    · exact spec_l01Phasor_small y hy hs w
    · have k : ∀ w, (FloatKind.f64.format.order (fa .sub .f64 y y w) 0 != some .eq) = false := fun w => by rw [fin_tests, hf]; rfl
      obtain ⟨t, _⟩ := big_tests (finb_iff.1 hf) hs
      rw [phR_big hf hs]
      clear hf hs
      rcases t with t | ⟨t1, t2⟩
      · go_enter Try.func61, Try.ntmps61
        go_wp2
        go_ret
        exact .mk' _ (cls_fin (k := .f32) (finb_iff.1 (by decide))) (cls_fin (k := .f32) (zero_fin .f32)) rfl
      · go_enter Try.func61, Try.ntmps61
        go_wp2
        go_ret
        exact .mk' _ (cls_fin (k := .f32) (finb_iff.1 (by decide))) (cls_fin (k := .f32) (zero_fin .f32)) rfl

theorem spec_PhasorOf (y : Nat) (hy : y < 2 ^ 64) (w : World) : Calls Try.prog 26 #[.float .f64 y] w (RetX (phR y) w) := by
  go_enter Try.func26, Try.ntmps26
  go_wp2_with fail
  refine (spec_l01Phasor _ hy _).mono ?_
  rintro e w' ⟨r, i, rfl, h1, h2, n, rfl⟩
  have H1 := Lib.hid h1; have H2 := Lib.hid h2; clear h1 h2
  go_wp2
  go_ret
  exact .mk' _ H1.out H2.out rfl

theorem impl_PhasorOf (y : Nat) (hy : y < 2 ^ 64) (w : World) : Calls Try.prog 27 #[.float .f64 y] w (RetX (phR y) w) := by
  cases hf : finb FloatKind.f64.format y
  · have k : ∀ w, (FloatKind.f64.format.order (fa .sub .f64 y y w) 0 != some .eq) = true := fun w => by rw [fin_tests, hf]; rfl
    rw [phR_nan hf]
    clear hf
    go_enter Try.func27, Try.ntmps27
    go_wp2_with fail
    refine (math_NaN _).mono ?_
    rintro e w' ⟨b, rfl, hb, n, rfl⟩
    have HB := Lib.hid hb; clear hb
    go_wp2
    go_ret
    exact .mk' _ (narrow_nan HB.out _) (narrow_nan HB.out _) rfl
  · by_cases hs : small y
    · exact impl_PhasorOf_small y hy hs w
    · have k : ∀ w, (FloatKind.f64.format.order (fa .sub .f64 y y w) 0 != some .eq) = false := fun w => by rw [fin_tests, hf]; rfl
      obtain ⟨_, t⟩ := big_tests (finb_iff.1 hf) hs
      rw [phR_big hf hs]
      clear hf hs
      go_enter Try.func27, Try.ntmps27
      go_wp2_with fail
      refine (math_NaN _).mono ?_
      rintro e w' ⟨b, rfl, hb, n, rfl⟩
      clear hb
      go_wp2_with fail
      refine (impl_isHuge _ hy _).mono ?_
      rintro e w' ⟨rfl, n2, rfl⟩
      go_wp2
      go_ret
      exact .mk' _ (cls_fin (k := .f32) (finb_iff.1 (by decide))) (cls_fin (k := .f32) (zero_fin .f32)) rfl

theorem sameComplex_true (a b c d : Nat) (h1 : cls .f64 a = cls .f64 c) (h2 : cls .f64 b = cls .f64 d) (w : World) : Calls Try.prog 28 #[.complex .f64 a b, .complex .f64 c d] w (Ret (.bool true) w) := by
  have H1 := Lib.hid h1; have H2 := Lib.hid h2; clear h1 h2
  go_enter Try.func28, Try.ntmps28
  go_wp2_with fail
  refine (sameFloat_true _ _ H1.out _).mono ?_
  rintro e w' ⟨rfl, n, rfl⟩
  go_wp2_with fail
  refine (sameFloat_true _ _ H2.out _).mono ?_
  rintro e w' ⟨rfl, n2, rfl⟩
  go_wp2
  go_ret
  exact .mk' _ rfl rfl

theorem law_PhasorOf (y : Nat) (hy : y < 2 ^ 64) (w : World) : Calls Try.prog 9 #[.float .f64 y] w (Ret (.bool true) w) := by
  have kx : ∀ (a b : Nat) (w : World), (convert 34 37 (.complex .f32 a b)).run Try.prog w = .ok (.complex .f64 (cv .f32 a .f64 w) (cv .f32 b .f64 (w.drewN (cd .f32 a .f64)))) (w.drewN (cd .f32 a .f64 + cd .f32 b .f64)) := fun a b w => run_conv_complex _ _ a b w (by kernel_rfl) (by kernel_rfl)
  go_enter Try.func9, Try.ntmps9
  go_wp2_with fail
  refine (spec_PhasorOf _ hy _).mono ?_
  rintro e w' ⟨r, i, rfl, h1, h2, n, rfl⟩
  have H1 := Lib.hid h1; have H2 := Lib.hid h2; clear h1 h2
  go_wp2_with fail
  refine (impl_PhasorOf _ hy _).mono ?_
  rintro e w' ⟨r', i', rfl, h1, h2, n', rfl⟩
  have H3 := Lib.hid h1; have H4 := Lib.hid h2; clear h1 h2
  go_wp2_with fail
  refine (sameComplex_true _ _ _ _ (by rw [cls_widen, cls_widen, H3.out, H1.out]) (by rw [cls_widen, cls_widen, H4.out, H2.out]) _).mono ?_
  rintro e w' ⟨rfl, n'', rfl⟩
  go_wp2
  go_ret
  exact .mk' _ rfl rfl

end Go.Proofs.Ytjpbimfnppmbcaa
