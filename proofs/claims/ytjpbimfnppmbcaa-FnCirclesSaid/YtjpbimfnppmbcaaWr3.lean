/- The law of sines. -/
import Derived.Test.YtjpbimfnppmbcaaWr2
namespace Go.Proofs.Ytjpbimfnppmbcaa
open Fl Go.RowKit

theorem finb_wide (x : Nat) (w : World) : finb FloatKind.f64.format (cv .f32 x .f64 w) = finb FloatKind.f32.format x := by
  rcases kinds Ieee.single x with h | h | h
  · rw [cv_wide (not_nan_of_fin h) w]
    exact (finb_iff.2 (widen h).1).trans (finb_iff.2 h).symm
  · have hn : nan Ieee.single x = false := by unfold nan; rw [decide_eq_false_iff_not]; omega
    have e : cv .f32 x .f64 w = Ieee.double.word (ng Ieee.single x) Ieee.double.infRung := by
      rw [cv_wide hn w, read_inf (f := Ieee.single) (by decide) h]; rfl
    rw [e]
    unfold finb
    have h1 : rung Ieee.double (Ieee.double.word (ng Ieee.single x) Ieee.double.infRung) = Ieee.double.infRung := rung_word _ _ Ieee.double.infRung_lt
    show decide (rung Ieee.double _ < Ieee.double.infRung) = decide (rung Ieee.single x < Ieee.single.infRung)
    rw [h1, h, decide_eq_false (by omega), decide_eq_false (by omega)]
  · have hc := cls_widen x w
    rw [cls_none (k := .f32) h] at hc
    have hn : nan FloatKind.f64.format (cv .f32 x .f64 w) = true := by
      cases hb : nan FloatKind.f64.format (cv .f32 x .f64 w)
      · rw [cls_some hb] at hc; cases hc
      · rfl
    have f1 : ∀ {f : Ieee.Format} {b : Nat}, nan f b = true → finb f b = false := by
      intro f b hb
      cases hf : finb f b
      · rfl
      · rw [not_nan_of_fin (finb_iff.1 hf)] at hb; cases hb
    rw [f1 hn]; exact (f1 h).symm

/-- The tests of a number's size that is not small. -/
theorem big_tests {y : Nat} (hf : fin Ieee.double y) (h : ¬ small y) : 
    ((FloatKind.f64.format.order y 0x4330000000000000 == some .gt || FloatKind.f64.format.order y 0x4330000000000000 == some .eq) = true ∨
    ((FloatKind.f64.format.order y 0x4330000000000000 == some .gt || FloatKind.f64.format.order y 0x4330000000000000 == some .eq) = false ∧ 
      (FloatKind.f64.format.order y 0xC330000000000000 == some .lt || FloatKind.f64.format.order y 0xC330000000000000 == some .eq) = true)) ∧
    (FloatKind.f64.format.order (absd y) 0x4330000000000000 == some .gt || FloatKind.f64.format.order (absd y) 0x4330000000000000 == some .eq) = true := by
  have c1 : fin Ieee.double 0x4330000000000000 := finb_iff.1 (by decide)
  have c2 : N Ieee.double 0x4330000000000000 = 2 ^ 52 * U Ieee.double := by decide +kernel
  have c3 : fin Ieee.double 0xC330000000000000 := finb_iff.1 (by decide)
  have c4 : N Ieee.double 0xC330000000000000 = -(2 ^ 52 * U Ieee.double) := by decide +kernel
  have hb : ¬ ((N Ieee.double y).natAbs : Int) < 2 ^ 52 * U Ieee.double := by
    intro hc
    refine h ⟨hf, ?_⟩
    rw [U_nat] at hc
    generalize 2 ^ (-Ieee.double.leastPlace).toNat = u at *
    omega
  rw [ge_N hf c1, le_N hf c3, ge_N (fin_absd.2 hf) c1, c2, c4, N_absd]
  refine ⟨?_, decide_eq_true (by omega)⟩
  rcases Int.lt_or_le (N Ieee.double y) (2 ^ 52 * U Ieee.double) with q | q
  · exact .inr ⟨decide_eq_false (by omega), decide_eq_true (by omega)⟩
  · exact .inl (decide_eq_true q)

theorem fin_tests {y : Nat} (w : World) : (FloatKind.f64.format.order (fa .sub .f64 y y w) 0 != some .eq) = !finb FloatKind.f64.format y := by
  show (!(FloatKind.f64.format.order (fa .sub .f64 y y w) 0 == some .eq)) = _
  rw [self_sub]

theorem spec_SineWide_nan (y : Nat) (h : finb FloatKind.f64.format y = false) (w : World) : Calls Try.prog 79 #[.float .f64 y] w (fun e w' => ∃ b, e = .returned (.float .f64 b) ∧ nan FloatKind.f64.format b = true ∧ ∃ n, w' = w.drewN n) := by
  have k : ∀ w, (FloatKind.f64.format.order (fa .sub .f64 y y w) 0 != some .eq) = true := fun w => by rw [fin_tests, h]; rfl
  clear h
  go_enter Try.func79, Try.ntmps79
  go_wp2_with fail
  refine (math_NaN _).mono ?_
  rintro e w' ⟨b, rfl, hb, n, rfl⟩
  have HB := Lib.hid hb; clear hb
  go_wp2
  go_ret
  exact ⟨_, rfl, HB.out, _, rfl⟩
theorem spec_SineWide_big (y : Nat) (hf : fin Ieee.double y) (h : ¬ small y) (w : World) : Calls Try.prog 79 #[.float .f64 y] w (Ret (.float .f64 0) w) := by
  have k : ∀ w, (FloatKind.f64.format.order (fa .sub .f64 y y w) 0 != some .eq) = false := fun w => by rw [fin_tests, show finb FloatKind.f64.format y = true from finb_iff.2 hf]; rfl
  obtain ⟨t, _⟩ := big_tests hf h
  clear hf h
  rcases t with t | ⟨t1, t2⟩
  · go_enter Try.func79, Try.ntmps79
    go_wp2
    go_ret
    exact .mk' _ rfl rfl
  · go_enter Try.func79, Try.ntmps79
    go_wp2
    go_ret
    exact .mk' _ rfl rfl

/-- The narrowed sine. -/
noncomputable def sinC (x : Nat) : Option Nat := if finb FloatKind.f32.format x then (open Classical in if small (tr .f32 .f64 x) then some (tr .f64 .f32 (sineW (tr .f32 .f64 x))) else some 0) else none
theorem sinC_nan {x : Nat} (h : finb FloatKind.f32.format x = false) : sinC x = none := by unfold sinC; rw [h]; rfl
theorem sinC_big {x : Nat} (h : finb FloatKind.f32.format x = true) (hs : ¬ small (tr .f32 .f64 x)) : sinC x = some 0 := by unfold sinC; rw [h, if_pos rfl, if_neg hs]
theorem sinC_small {x : Nat} (h : finb FloatKind.f32.format x = true) (hs : small (tr .f32 .f64 x)) : sinC x = some (tr .f64 .f32 (sineW (tr .f32 .f64 x))) := by unfold sinC; rw [h, if_pos rfl, if_pos hs]
theorem narrow_nan {b : Nat} (h : nan FloatKind.f64.format b = true) (w : World) : cls .f32 (cv .f64 b .f32 w) = none := by
  rw [cls_cv (s := .f64) (d := .f32) w (by decide) (fun hf => by rw [not_nan_of_fin hf] at h; cases h), cls_none h]; rfl
theorem narrow_in {b : Nat} {l h : Int} (hi : In (some b) l h) (hl : -9007199254740992 ≤ l) (hh : h ≤ 9007199254740992) (w : World) : cls .f32 (cv .f64 b .f32 w) = some (tr .f64 .f32 b) := by
  rw [cls_cv (s := .f64) (d := .f32) w (by decide) (hi.fits hl hh), hi.cls]; rfl
theorem narrow_0 (w : World) : cls .f32 (cv .f64 0 .f32 w) = some 0 := by
  rw [narrow_in zero_in (by omega) (by omega) w]
  exact congrArg some (by decide +kernel)
theorem tr_lt {x : Nat} (h : finb FloatKind.f32.format x = true) : tr .f32 .f64 x < 2 ^ 64 := by
  have : tr .f32 .f64 x = Ieee.double.write (Ieee.single.read x) := rfl
  rw [this, (conv_fin (f := Ieee.single) (g := Ieee.double) (by decide) (finb_iff.1 h)).2]; exact word_lt64 _ (rg_lt _ _ _)
theorem cv_tr {x : Nat} (h : finb FloatKind.f32.format x = true) (w : World) : cv .f32 x .f64 w = tr .f32 .f64 x := cv_wide (not_nan_of_fin (finb_iff.1 h)) w
theorem tr_fin {x : Nat} (h : finb FloatKind.f32.format x = true) : fin Ieee.double (tr .f32 .f64 x) := (widen (finb_iff.1 h)).1

theorem spec_l01Sine (x : Nat) (w : World) : Calls Try.prog 54 #[.float .f32 x] w (RetK .f32 (sinC x) w) := by
  cases hx : finb FloatKind.f32.format x
  · have HX := Lib.hid hx; clear hx
    rw [sinC_nan HX.out]
    go_enter Try.func54, Try.ntmps54
    go_wp2_with fail
    refine (spec_SineWide_nan _ (by rw [finb_wide]; exact HX.out) _).mono ?_
    rintro e w' ⟨b, rfl, hb, n, rfl⟩
    have HB := Lib.hid hb; clear hb
    go_wp2_with fail
    refine (spec_l01Narrow _ _).mono ?_
    rintro e w' ⟨w3, rfl, n', rfl⟩
    go_wp2
    go_ret
    exact .mk' _ (narrow_nan HB.out _) rfl
  · have k := cv_tr hx
    by_cases hs : small (tr .f32 .f64 x)
    · have HY := Lib.hid (tr_lt hx)
      rw [sinC_small hx hs]
      have HS := Lib.hid hs
      clear hx hs
      go_enter Try.func54, Try.ntmps54
      go_wp2_with fail
      refine (spec_l01SineWide _ HY.out HS.out _).mono ?_
      rintro e w' ⟨rfl, n, rfl⟩
      go_wp2_with fail
      refine (spec_l01Narrow _ _).mono ?_
      rintro e w' ⟨w3, rfl, n', rfl⟩
      go_wp2
      go_ret
      exact .mk' _ (narrow_in (sine_in HY.out HS.out) (by omega) (by omega) _) rfl
    · rw [sinC_big hx hs]
      have HX := Lib.hid (tr_fin hx)
      have HS := Lib.hid hs
      clear hx hs
      go_enter Try.func54, Try.ntmps54
      go_wp2_with fail
      refine (spec_SineWide_big _ HX.out HS.out _).mono ?_
      rintro e w' ⟨rfl, n, rfl⟩
      go_wp2_with fail
      refine (spec_l01Narrow _ _).mono ?_
      rintro e w' ⟨w3, rfl, n', rfl⟩
      go_wp2
      go_ret
      exact .mk' _ (narrow_0 _) rfl

theorem spec_SineTurns (x : Nat) (w : World) : Calls Try.prog 22 #[.float .f32 x] w (RetK .f32 (sinC x) w) := by
  go_enter Try.func22, Try.ntmps22
  go_wp2_with fail
  refine (spec_l01Sine _ _).mono ?_
  rintro e w' ⟨r, rfl, hr, n, rfl⟩
  have HR := Lib.hid hr; clear hr
  go_wp2
  go_ret
  exact .mk' _ HR.out rfl

theorem impl_SineTurns (x : Nat) (w : World) : Calls Try.prog 23 #[.float .f32 x] w (RetK .f32 (sinC x) w) := by
  cases hx : finb FloatKind.f32.format x
  · have HX := Lib.hid hx; clear hx
    rw [sinC_nan HX.out]
    go_enter Try.func23, Try.ntmps23
    go_wp2_with fail
    refine (impl_IsFinite _ _).mono ?_
    rintro e w' ⟨rfl, n, rfl⟩
    rw [HX.out]
    go_wp2_with fail
    refine (math_NaN _).mono ?_
    rintro e w' ⟨b, rfl, hb, n', rfl⟩
    have HB := Lib.hid hb; clear hb
    go_wp2
    go_ret
    exact .mk' _ (narrow_nan HB.out _) rfl
  · have k := cv_tr hx
    by_cases hs : small (tr .f32 .f64 x)
    · have HY := Lib.hid (tr_lt hx)
      rw [sinC_small hx hs]
      obtain ⟨_, _, _, t4⟩ := small_tests HY.out hs
      have HS := Lib.hid hs
      have HX := Lib.hid hx
      clear hx hs
      go_enter Try.func23, Try.ntmps23
      go_wp2_with fail
      refine (impl_IsFinite _ _).mono ?_
      rintro e w' ⟨rfl, n, rfl⟩
      rw [HX.out]
      go_wp2_with fail
      refine (impl_isHuge _ HY.out _).mono ?_
      rintro e w' ⟨rfl, n2, rfl⟩
      go_wp2_with fail
      refine (impl_sine _ HY.out HS.out _).mono ?_
      rintro e w' ⟨rfl, n', rfl⟩
      go_wp2
      go_ret
      exact .mk' _ (narrow_in (sine_in HY.out HS.out) (by omega) (by omega) _) rfl
    · rw [sinC_big hx hs]
      have HY := Lib.hid (tr_lt hx)
      obtain ⟨_, t4⟩ := big_tests (tr_fin hx) hs
      have HX := Lib.hid hx
      clear hx hs
      go_enter Try.func23, Try.ntmps23
      go_wp2_with fail
      refine (impl_IsFinite _ _).mono ?_
      rintro e w' ⟨rfl, n, rfl⟩
      rw [HX.out]
      go_wp2_with fail
      refine (impl_isHuge _ HY.out _).mono ?_
      rintro e w' ⟨rfl, n2, rfl⟩
      go_wp2
      go_ret
      exact .mk' _ (cls_fin (k := .f32) (zero_fin .f32)) rfl

theorem law_SineTurns (x : Nat) (w : World) : Calls Try.prog 7 #[.float .f32 x] w (Ret (.bool true) w) := by
  go_enter Try.func7, Try.ntmps7
  go_wp2_with fail
  refine (spec_SineTurns _ _).mono ?_
  rintro e w' ⟨r, rfl, hr, n, rfl⟩
  have HR := Lib.hid hr; clear hr
  go_wp2_with fail
  refine (impl_SineTurns _ _).mono ?_
  rintro e w' ⟨s, rfl, hs, n', rfl⟩
  have HS := Lib.hid hs; clear hs
  go_wp2_with fail
  refine (sameFloat_w _ _ (HS.out.trans HR.out.symm) _ _ _).mono ?_
  rintro e w' ⟨rfl, n'', rfl⟩
  go_wp2
  go_ret
  exact .mk' _ rfl rfl

end Go.Proofs.Ytjpbimfnppmbcaa
