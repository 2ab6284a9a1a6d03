/- The law of tenths of decibels. -/
import Derived.Test.YtjpbimfnppmbcaaWr6
namespace Go.Proofs.Ytjpbimfnppmbcaa
open Fl Go.RowKit

theorem pos_wide {x : Nat} (h : notPos x = false) : finb FloatKind.f32.format x = true ∧ lgR (tr .f32 .f64 x) := by
  unfold notPos at h
  rw [Bool.or_eq_false_iff] at h
  have hf : finb FloatKind.f32.format x = true := by simpa using h.1
  have h2 := h.2
  rw [← le_not_gt (k := .f32) (finb_iff.1 hf) (zero_fin .f32)] at h2
  have e2 : FloatKind.f32.format.order x 0 = some (compare (N Ieee.single x) (N Ieee.single 0)) := order_fin (f := Ieee.single) (by decide) (finb_iff.1 hf) (zero_fin .f32)
  have z : N Ieee.single 0 = 0 := N_zero .f32
  rw [e2, compare_gt, z] at h2
  have h0 : 0 < N Ieee.single x := by simpa using h2
  exact ⟨hf, wide_word (finb_iff.1 hf) h0⟩

def tenL (x : Nat) : Nat := lC (lgM (tr .f32 .f64 x)) (lgE (tr .f32 .f64 x))
def tenI (x : Nat) : Int := tI (tenL x)
theorem tenL_in {x : Nat} (h : notPos x = false) : In (some (tenL x)) (-1540) 1542 := by
  obtain ⟨_, hr⟩ := pos_wide h
  have a := lgU_max hr
  have b := lgD_max hr
  exact (lC_in (lgM_in hr) (by unfold lgE; omega) (by unfold lgE; omega)).2
def tenR (x : Nat) : Value := if notPos x then .tuple #[.int .i64 0, .bool false] else .tuple #[.int .i64 (tenI x), .bool true]
theorem tenR_no {x : Nat} (h : notPos x = true) : tenR x = .tuple #[.int .i64 0, .bool false] := by unfold tenR; rw [h]; rfl
theorem tenR_yes {x : Nat} (h : notPos x = false) : tenR x = .tuple #[.int .i64 (tenI x), .bool true] := by unfold tenR; rw [h]; rfl

theorem spec_l01Tenths (x : Nat) (h : notPos x = false) (w : World) : Calls Try.prog 63 #[.float .f32 x] w (Ret (.int .i64 (tenI x)) w) := by
  obtain ⟨hf, hr⟩ := pos_wide h
  have k := cv_tr hf
  have hl := tenL_in h
  obtain ⟨k1, _⟩ := tA_in hl
  obtain ⟨k2, i2⟩ := tB_in hl
  have I2 := Lib.hid (not_nan_of_fin i2.fin)
  have hv := tI_val hl
  have HR := Lib.hid hr
  have HT : Hid (tenI x = tI (tenL x)) := Lib.hid rfl
  have HL : Hid (lC (lgM (tr .f32 .f64 x)) (lgE (tr .f32 .f64 x)) = tenL x) := Lib.hid rfl
  have kc : ∀ w, (convert 26 2 (.float .f64 (flo (tB (tenL x))))).run Try.prog w = .ok (.int .i64 (tI (tenL x))) w := fun w => run_convert_float_int w _ _ _ _ _ _ (by kernel_rfl) (by kernel_rfl) hv
  clear h hf hr hl i2 hv
  generalize tI (tenL x) = ti at *
  generalize tB (tenL x) = tb at *
  generalize tA (tenL x) = ta at *
  generalize tenL x = l at *
  go_enter Try.func63, Try.ntmps63
  go_wp2_with fail
  refine (spec_l01LogWide _ HR.out _).mono ?_
  rintro e w' ⟨rfl, n, rfl⟩
  rw [HL.out]
  go_wp2_with fail
  refine (math_Floor _ I2.out _).mono ?_
  rintro e w' ⟨rfl, n2, rfl⟩
  go_wp2
  go_ret
  exact .mk' _ (int_congr HT.out.symm) rfl

theorem spec_TenthsOf (x : Nat) (w : World) : Calls Try.prog 29 #[.float .f32 x] w (Ret (tenR x) w) := by
  cases h : notPos x
  · rw [tenR_yes h]
    have HX := Lib.hid (pos_wide h).1
    have hc : (FloatKind.f32.format.order x 0 == some .lt || FloatKind.f32.format.order x 0 == some .eq) = false := by
      unfold notPos at h; rw [Bool.or_eq_false_iff] at h; exact h.2
    have H := Lib.hid h; clear h
    go_enter Try.func29, Try.ntmps29
    go_wp2_with (first | (go_at_call 45; refine (spec_l01Finite _ _).mono ?_; rintro e w' ⟨rfl, n, rfl⟩; rw [HX.out]) | (go_at_call 63; refine (spec_l01Tenths _ H.out _).mono ?_; rintro e w' ⟨rfl, n, rfl⟩))
    go_ret2
    exact .mk' _ rfl rfl
  · rw [tenR_no h]
    cases hf : finb FloatKind.f32.format x
    · have HX := Lib.hid hf; clear hf h
      go_enter Try.func29, Try.ntmps29
      go_wp2_with (go_at_call 45; refine (spec_l01Finite _ _).mono ?_; rintro e w' ⟨rfl, n, rfl⟩; rw [HX.out])
      go_ret2
      exact .mk' _ rfl rfl
    · have HX := Lib.hid hf
      have hc : (FloatKind.f32.format.order x 0 == some .lt || FloatKind.f32.format.order x 0 == some .eq) = true := by
        unfold notPos at h; rw [hf] at h; exact h
      clear hf h
      go_enter Try.func29, Try.ntmps29
      go_wp2_with (go_at_call 45; refine (spec_l01Finite _ _).mono ?_; rintro e w' ⟨rfl, n, rfl⟩; rw [HX.out])
      go_ret2
      exact .mk' _ rfl rfl

theorem one_FS (x : Nat) (w : World) : FS (w.alloc (.cells #[.float .f32 x] 22)) (.slice (some ⟨w.heap.size, 0, none⟩) 1 1) [x] := by
  refine ⟨_, _, _, rfl, rfl, by decide, .inr ⟨_, _, rfl, by simp, fun i hi => ?_⟩⟩
  match i, hi with
  | 0, _ => simp [go_sem]

theorem impl_TenthsOf (x : Nat) (w : World) : Calls Try.prog 30 #[.float .f32 x] w (RetB (tenR x) w) := by
  cases h : notPos x
  · rw [tenR_yes h]
    have HF := Lib.hid (show [x].any notPos = false by simp [h])
    obtain ⟨hf, hr⟩ := pos_wide h
    have k := cv_tr hf
    have hl := tenL_in h
    obtain ⟨k1, _⟩ := tA_in hl
    obtain ⟨k2, i2⟩ := tB_in hl
    have I2 := Lib.hid (not_nan_of_fin i2.fin)
    have hv := tI_val hl
    have HR := Lib.hid hr
    have HT : Hid (tenI x = tI (tenL x)) := Lib.hid rfl
    have HL : Hid (lC (lgM (tr .f32 .f64 x)) (lgE (tr .f32 .f64 x)) = tenL x) := Lib.hid rfl
    have kc : ∀ w, (convert 26 2 (.float .f64 (flo (tB (tenL x))))).run Try.prog w = .ok (.int .i64 (tI (tenL x))) w := fun w => run_convert_float_int w _ _ _ _ _ _ (by kernel_rfl) (by kernel_rfl) hv
    clear h hf hr hl i2 hv
    generalize tI (tenL x) = ti at *
    generalize tB (tenL x) = tb at *
    generalize tA (tenL x) = ta at *
    generalize tenL x = l at *
    go_enter Try.func30, Try.ntmps30
    go_wp2_with fail
    refine (impl_arePositive _ _ [x] (one_FS _ _)).mono ?_
    rintro e w1 ⟨rfl, n1, hw1⟩
    rw [HF.out]
    have HB1 : Hid (Below w.heap.size w w1) := Lib.hid (by rw [hw1]; exact below_dn ((Below.refl _ _).alloc (Nat.le_refl _) _) _)
    clear hw1
    go_wp2_with fail
    refine (impl_logarithm _ HR.out _).mono ?_
    rintro e w' ⟨rfl, n, rfl⟩
    rw [HL.out]
    go_wp2_with fail
    refine (math_Floor _ I2.out _).mono ?_
    rintro e w' ⟨rfl, n2, rfl⟩
    go_wp2
    go_ret2
    exact .mk' (by rw [HT.out]; rfl) (by first | exact below_dn HB1.out _ | (simp only [World.drewN_drewN]; exact below_dn HB1.out _))
  · rw [tenR_no h]
    have HF := Lib.hid (show [x].any notPos = true by simp [h])
    clear h
    go_enter Try.func30, Try.ntmps30
    go_wp2_with fail
    refine (impl_arePositive _ _ [x] (one_FS _ _)).mono ?_
    rintro e w1 ⟨rfl, n1, hw1⟩
    rw [HF.out]
    have HB1 : Hid (Below w.heap.size w w1) := Lib.hid (by rw [hw1]; exact below_dn ((Below.refl _ _).alloc (Nat.le_refl _) _) _)
    clear hw1
    go_wp2
    go_ret2
    exact .mk' rfl HB1.out

theorem tenR_shape (x : Nat) : ∃ i o, tenR x = .tuple #[.int .i64 i, .bool o] := by
  cases h : notPos x
  · exact ⟨_, _, tenR_yes h⟩
  · exact ⟨_, _, tenR_no h⟩

theorem law_TenthsOf (x : Nat) (w : World) : Calls Try.prog 10 #[.float .f32 x] w (RetB (.bool true) w) := by
  have H1 := Lib.hid (spec_TenthsOf x)
  have H2 := Lib.hid (impl_TenthsOf x)
  obtain ⟨i, o, e⟩ := tenR_shape x
  rw [e] at H1 H2
  clear e
  go_enter Try.func10, Try.ntmps10
  go_wp2_with fail
  refine (H1.out _).mono ?_
  rintro e w1 ⟨rfl, n, hw⟩
  have HB1 : Hid (Below w.heap.size w w1) := Lib.hid (by rw [hw]; exact below_dn (Below.refl _ _) _)
  clear hw
  go_wp2_with fail
  refine (H2.out _).mono ?_
  rintro e w2 ⟨rfl, hb⟩
  have HB2 := Lib.hid (HB1.out.trans (hb.mono HB1.out.size)); clear hb
  go_wp2
  go_ret
  exact .mk' rfl HB2.out

end Go.Proofs.Ytjpbimfnppmbcaa
