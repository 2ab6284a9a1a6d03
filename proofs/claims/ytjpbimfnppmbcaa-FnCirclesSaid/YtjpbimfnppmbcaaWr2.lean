/- Sines: the walks of the reference, of the program and of the law. -/
import Derived.Test.YtjpbimfnppmbcaaWr1
namespace Go.Proofs.Ytjpbimfnppmbcaa
open Fl Go.RowKit

theorem math_NaN (w : World) : Calls Try.prog 56 #[] w (fun e w' => ∃ b, e = .returned (.float .f64 b) ∧ nan FloatKind.f64.format b = true ∧ ∃ n, w' = w.drewN n) := by
  have k2 := f64from
  go_enter Try.func56, Try.ntmps56
  go_wp2
  go_ret
  exact ⟨_, rfl, by decide +kernel, 0, rfl⟩

theorem impl_isHuge (y : Nat) (hy : y < 2 ^ 64) (w : World) : Calls Try.prog 57 #[.float .f64 y] w (Ret (.bool (FloatKind.f64.format.order (absd y) 0x4330000000000000 == some .gt || FloatKind.f64.format.order (absd y) 0x4330000000000000 == some .eq)) w) := by
  go_enter Try.func57, Try.ntmps57
  go_wp2_with fail
  refine (math_Abs _ hy _).mono ?_
  rintro e w' ⟨rfl, n, rfl⟩
  go_wp2
  go_ret
  exact .mk' _ rfl rfl

theorem pt_or {y : Nat} (hy : y < 2 ^ 64) (h : small y) : ((FloatKind.f64.format.order (ptA y) 0 == some .lt) = true ∧ ∀ w, fa .add .f64 (ptA y) 0x3FF0000000000000 w = pt y) ∨ ((FloatKind.f64.format.order (ptA y) 0 == some .lt) = false ∧ pt y = ptA y) := by
  have k := (pt_in hy h).1
  cases hl : (FloatKind.f64.format.order (ptA y) 0 == some .lt)
  · exact .inr ⟨rfl, by unfold pt; rw [hl]; rfl⟩
  · exact .inl ⟨rfl, fun w => by rw [k hl w]; unfold pt; rw [hl]; rfl⟩
theorem fdA_or {f : Nat} (h : In (some f) 0 4) : (below f = true ∧ ∀ w, fa .sub .f64 f 0x3FE0000000000000 w = fdA f) ∨ (below f = false ∧ fdA f = f) := by
  have k := (fdA_in h).1
  cases hl : below f
  · exact .inr ⟨rfl, by unfold fdA; rw [hl]; rfl⟩
  · exact .inl ⟨rfl, fun w => by rw [k hl w]; unfold fdA; rw [hl]; rfl⟩
theorem fdB_or {f : Nat} (h : In (some f) 0 4) : ((FloatKind.f64.format.order (fdA f) 0x3FD0000000000000 == some .gt) = true ∧ ∀ w, fa .sub .f64 0x3FE0000000000000 (fdA f) w = fdB f) ∨ ((FloatKind.f64.format.order (fdA f) 0x3FD0000000000000 == some .gt) = false ∧ fdB f = fdA f) := by
  have k := (fdB_in h).1
  cases hl : (FloatKind.f64.format.order (fdA f) 0x3FD0000000000000 == some .gt)
  · exact .inr ⟨rfl, by unfold fdB; rw [hl]; rfl⟩
  · exact .inl ⟨rfl, fun w => by rw [k hl w]; unfold fdB; rw [hl]; rfl⟩
theorem sineW_yes {y : Nat} (h : below (pt y) = true) : sineW y = Op.negFloat .f64 (snA (pt y)) := by unfold sineW; rw [h]; rfl
theorem sineW_no {y : Nat} (h : below (pt y) = false) : sineW y = snA (pt y) := by unfold sineW; rw [h]; rfl

/-- A round of the loop. -/
theorem p_round {u : Nat} (hu : In (some u) 0 13) (j : Nat) (hj : j < 8) : ∃ s1 s2 r' d k2 k3 k', (∀ w, fa .mul .f64 u (pW u j) w = s1) ∧ (∀ w, fa .quo .f64 s1 d w = s2) ∧ (∀ w, fa .sub .f64 0x3FF0000000000000 s2 w = r') ∧ r' = pW u (j + 1) ∧
    d = denW j ∧ FloatKind.f64.nearest (denI j) = d ∧ (∀ w, fa .mul .f64 0x4000000000000000 (kW j) w = k2) ∧ (∀ w, fa .add .f64 k2 0x3FF0000000000000 w = k3) ∧ (∀ w, fa .mul .f64 k2 k3 w = d) ∧ (∀ w, fa .sub .f64 (kW j) 0x3FF0000000000000 w = k') ∧ k' = kW (j + 1) :=
  ⟨_, _, _, _, _, _, _, (up_in hu (p_in hu j (by omega))).1, (q_in hj hu (p_in hu j (by omega))).1, p_step hj hu, rfl, rfl, k_denI j hj, fa_some (k_two j hj), fa_some (k_three j hj), fa_some (k_den j hj), fa_some (k_sub j hj), rfl⟩

/-- What the tests of a small number's size say. -/
theorem small_tests {y : Nat} (hy : y < 2 ^ 64) (h : small y) : (∀ w, (FloatKind.f64.format.order (fa .sub .f64 y y w) 0 != some .eq) = false) ∧
    (FloatKind.f64.format.order y 0x4330000000000000 == some .gt || FloatKind.f64.format.order y 0x4330000000000000 == some .eq) = false ∧
    (FloatKind.f64.format.order y 0xC330000000000000 == some .lt || FloatKind.f64.format.order y 0xC330000000000000 == some .eq) = false ∧
    (FloatKind.f64.format.order (absd y) 0x4330000000000000 == some .gt || FloatKind.f64.format.order (absd y) 0x4330000000000000 == some .eq) = false := by
  have c1 : fin Ieee.double 0x4330000000000000 := finb_iff.1 (by decide)
  have c2 : N Ieee.double 0x4330000000000000 = 2 ^ 52 * U Ieee.double := by decide +kernel
  have c3 : fin Ieee.double 0xC330000000000000 := finb_iff.1 (by decide)
  have c4 : N Ieee.double 0xC330000000000000 = -(2 ^ 52 * U Ieee.double) := by decide +kernel
  have hb : ((N Ieee.double y).natAbs : Int) < 2 ^ 52 * U Ieee.double := by
    have := h.2
    rw [U_nat]
    generalize 2 ^ (-Ieee.double.leastPlace).toNat = u at *
    omega
  have _ := hy
  refine ⟨fun w => ?_, ?_, ?_, ?_⟩
  · have := self_sub .f64 y w
    have hf : finb FloatKind.f64.format y = true := finb_iff.2 h.1
    rw [hf] at this
    show (!(FloatKind.f64.format.order (fa .sub .f64 y y w) 0 == some .eq)) = false
    rw [this]; rfl
  · rw [ge_N h.1 c1, c2]; exact decide_eq_false (by omega)
  · rw [le_N h.1 c3, c4]; exact decide_eq_false (by omega)
  · rw [ge_N (fin_absd.2 h.1) c1, c2, N_absd]; exact decide_eq_false (by omega)

theorem whI_val {y : Nat} (h : small y) : floatToIntVal .f64 y .i64 = some (whI y) := by
  have ht := toInt_fin (f := Ieee.double) (by decide) (by decide) h.1
  have hq := tq_lt h
  have hb : -9223372036854775808 ≤ whI y ∧ whI y ≤ 9223372036854775807 := by
    unfold whI
    cases ng Ieee.double y
    · simp only [Bool.false_eq_true, if_false]; omega
    · simp only [if_true]; omega
  unfold floatToIntVal
  have e : (FloatKind.f64.decode y).toInt .zero = some (whI y) := ht
  rw [e]
  simp only
  rw [if_pos]
  exact ⟨by have : IntKind.i64.min = -9223372036854775808 := by decide
            omega, by have : IntKind.i64.max = 9223372036854775807 := by decide
                      omega⟩

theorem impl_partOfTurn (y : Nat) (hy : y < 2 ^ 64) (h : small y) (w : World) : Calls Try.prog 62 #[.float .f64 y] w (Ret (.float .f64 (pt y)) w) := by
  have HN := Lib.hid (not_nan_of_fin h.1)
  obtain ⟨t1, t2, t3⟩ := wh_trunc h
  obtain ⟨k1, i1⟩ := ptA_in hy h
  have ho := pt_or hy h
  clear t1 i1
  by_cases h0 : tq Ieee.double y = 0
  · have hw : wh y = 0 := by unfold wh; rw [if_pos h0]
    rw [decide_eq_true h0] at t2
    rw [hw] at k1
    clear t3 hw h0 hy h
    generalize pt y = p at *
    generalize ptA y = a at *
    rcases ho with ⟨c, k2⟩ | ⟨c, rfl⟩
    all_goals
      go_enter Try.func62, Try.ntmps62
      go_wp2_with fail
      refine (math_Trunc _ HN.out _).mono ?_
      rintro e w' ⟨rfl, n, rfl⟩
      go_wp2
      go_ret
      exact .mk' _ rfl rfl
  · have e := t3 h0
    rw [decide_eq_false h0] at t2
    rw [← e] at k1
    clear t3 e h0 hy h
    generalize pt y = p at *
    generalize ptA y = a at *
    rcases ho with ⟨c, k2⟩ | ⟨c, rfl⟩
    all_goals
      go_enter Try.func62, Try.ntmps62
      go_wp2_with fail
      refine (math_Trunc _ HN.out _).mono ?_
      rintro e w' ⟨rfl, n, rfl⟩
      go_wp2
      go_ret
      exact .mk' _ rfl rfl

set_option maxHeartbeats 1600000 in
theorem spec_l01SineWide (y : Nat) (hy : y < 2 ^ 64) (h : small y) (w : World) : Calls Try.prog 79 #[.float .f64 y] w (Ret (.float .f64 (sineW y)) w) := by
  obtain ⟨q1, q2, q3, q4⟩ := small_tests hy h
  obtain ⟨k1, i1⟩ := ptA_in hy h
  have i2 := (pt_in hy h).2
  have ho := pt_or hy h
  have ho1 := fdA_or i2
  have ho2 := fdB_or i2
  obtain ⟨k3, i3⟩ := zW_in (fdB_in i2).2
  obtain ⟨k4, i4⟩ := uW_in i3
  obtain ⟨k5, _⟩ := snA_in i2
  have HP := Lib.hid (p_round i4)
  have HI := Lib.hid (whI_val h)
  have HW := Lib.hid (wh_int (y := y))
  have HY := Lib.hid (sineW_yes (y := y)); have HN := Lib.hid (sineW_no (y := y))
  have HS := Lib.hid (show small y from h)
  have kc : ∀ w, (convert 26 2 (.float .f64 y)).run Try.prog w = .ok (.int .i64 (whI y)) w := fun w => run_convert_float_int w _ _ _ _ _ _ (by kernel_rfl) (by kernel_rfl) HI.out
  have kn : floatOfInt .f64 (whI y) = wh y := wh_int (y := y)
  clear q4 i1 i2 i3 i4 HI HW
  generalize whI y = wi at *
  generalize wh y = wy at *
  generalize uW (zW (fdB (pt y))) = u at *
  generalize zW (fdB (pt y)) = z at *
  generalize fdB (pt y) = b at *
  generalize fdA (pt y) = c at *
  generalize snA (pt y) = r at *
  generalize pt y = p at *
  generalize ptA y = a at *
  unfold below at ho1 HY HN
  clear hy h HS
  rcases ho with ⟨c1, k2⟩ | ⟨c1, rfl⟩
  · rcases ho1 with ⟨c2, m1⟩ | ⟨c2, rfl⟩
    · rcases ho2 with ⟨c3, m2⟩ | ⟨c3, rfl⟩
      · have HA := Lib.hid (HY.out c2)
        go_enter Try.func79, Try.ntmps79
        go_wp2_with fail
        go_loopw [7, 8] (fun p k wr => ∃ n t, wr = w.drewN n ∧ p = .float .f64 t ∧ ((k = .int .i64 8 ∧ t = pW u 0) ∨ (k = .int .i64 7 ∧ t = pW u 1) ∨ (k = .int .i64 6 ∧ t = pW u 2) ∨ (k = .int .i64 5 ∧ t = pW u 3) ∨ (k = .int .i64 4 ∧ t = pW u 4) ∨ (k = .int .i64 3 ∧ t = pW u 5) ∨ (k = .int .i64 2 ∧ t = pW u 6) ∨ (k = .int .i64 1 ∧ t = pW u 7) ∨ (k = .int .i64 0 ∧ t = pW u 8))) (fun _ k _ => (intOf k).toNat)
        case atStart => exact ⟨_, _, rfl, rfl, .inl ⟨rfl, rfl⟩⟩
        case round =>
          obtain ⟨n, t, rfl, rfl, hk⟩ := hrel
          rcases hk with ⟨rfl, ht⟩ | ⟨rfl, ht⟩ | ⟨rfl, ht⟩ | ⟨rfl, ht⟩ | ⟨rfl, ht⟩ | ⟨rfl, ht⟩ | ⟨rfl, ht⟩ | ⟨rfl, ht⟩ | ⟨rfl, ht⟩
          · obtain ⟨s1, s2, t', d, d2, d3, k', h1, h2, h3, h4, h5, h6, h7, h8, h9, h10, h11⟩ := HP.out 0 (by omega)
            rw [← ht] at h1
            have H4 := Lib.hid h4; have H5 := Lib.hid h5; have H11 := Lib.hid h11; clear h4 h5 h11 ht
            have h6' : floatOfInt .f64 272 = d := h6
            clear h6 h7 h8 h9 h10 HP HY HN
            go_wp2
            go_roundw
            case rel => exact ⟨_, _, (by first | rfl | simp only [World.drewN_drewN]), rfl, .inr (.inl ⟨rfl, H4.out⟩)⟩
            case measure => simp [intOf]
          · obtain ⟨s1, s2, t', d, d2, d3, k', h1, h2, h3, h4, h5, h6, h7, h8, h9, h10, h11⟩ := HP.out 1 (by omega)
            rw [← ht] at h1
            have H4 := Lib.hid h4; have H5 := Lib.hid h5; have H11 := Lib.hid h11; clear h4 h5 h11 ht
            have h6' : floatOfInt .f64 210 = d := h6
            clear h6 h7 h8 h9 h10 HP HY HN
            go_wp2
            go_roundw
            case rel => exact ⟨_, _, (by first | rfl | simp only [World.drewN_drewN]), rfl, .inr (.inr (.inl ⟨rfl, H4.out⟩))⟩
            case measure => simp [intOf]
          · obtain ⟨s1, s2, t', d, d2, d3, k', h1, h2, h3, h4, h5, h6, h7, h8, h9, h10, h11⟩ := HP.out 2 (by omega)
            rw [← ht] at h1
            have H4 := Lib.hid h4; have H5 := Lib.hid h5; have H11 := Lib.hid h11; clear h4 h5 h11 ht
            have h6' : floatOfInt .f64 156 = d := h6
            clear h6 h7 h8 h9 h10 HP HY HN
            go_wp2
            go_roundw
            case rel => exact ⟨_, _, (by first | rfl | simp only [World.drewN_drewN]), rfl, .inr (.inr (.inr (.inl ⟨rfl, H4.out⟩)))⟩
            case measure => simp [intOf]
          · obtain ⟨s1, s2, t', d, d2, d3, k', h1, h2, h3, h4, h5, h6, h7, h8, h9, h10, h11⟩ := HP.out 3 (by omega)
            rw [← ht] at h1
            have H4 := Lib.hid h4; have H5 := Lib.hid h5; have H11 := Lib.hid h11; clear h4 h5 h11 ht
            have h6' : floatOfInt .f64 110 = d := h6
            clear h6 h7 h8 h9 h10 HP HY HN
            go_wp2
            go_roundw
            case rel => exact ⟨_, _, (by first | rfl | simp only [World.drewN_drewN]), rfl, .inr (.inr (.inr (.inr (.inl ⟨rfl, H4.out⟩))))⟩
            case measure => simp [intOf]
          · obtain ⟨s1, s2, t', d, d2, d3, k', h1, h2, h3, h4, h5, h6, h7, h8, h9, h10, h11⟩ := HP.out 4 (by omega)
            rw [← ht] at h1
            have H4 := Lib.hid h4; have H5 := Lib.hid h5; have H11 := Lib.hid h11; clear h4 h5 h11 ht
            have h6' : floatOfInt .f64 72 = d := h6
            clear h6 h7 h8 h9 h10 HP HY HN
            go_wp2
            go_roundw
            case rel => exact ⟨_, _, (by first | rfl | simp only [World.drewN_drewN]), rfl, .inr (.inr (.inr (.inr (.inr (.inl ⟨rfl, H4.out⟩)))))⟩
            case measure => simp [intOf]
          · obtain ⟨s1, s2, t', d, d2, d3, k', h1, h2, h3, h4, h5, h6, h7, h8, h9, h10, h11⟩ := HP.out 5 (by omega)
            rw [← ht] at h1
            have H4 := Lib.hid h4; have H5 := Lib.hid h5; have H11 := Lib.hid h11; clear h4 h5 h11 ht
            have h6' : floatOfInt .f64 42 = d := h6
            clear h6 h7 h8 h9 h10 HP HY HN
            go_wp2
            go_roundw
            case rel => exact ⟨_, _, (by first | rfl | simp only [World.drewN_drewN]), rfl, .inr (.inr (.inr (.inr (.inr (.inr (.inl ⟨rfl, H4.out⟩))))))⟩
            case measure => simp [intOf]
          · obtain ⟨s1, s2, t', d, d2, d3, k', h1, h2, h3, h4, h5, h6, h7, h8, h9, h10, h11⟩ := HP.out 6 (by omega)
            rw [← ht] at h1
            have H4 := Lib.hid h4; have H5 := Lib.hid h5; have H11 := Lib.hid h11; clear h4 h5 h11 ht
            have h6' : floatOfInt .f64 20 = d := h6
            clear h6 h7 h8 h9 h10 HP HY HN
            go_wp2
            go_roundw
            case rel => exact ⟨_, _, (by first | rfl | simp only [World.drewN_drewN]), rfl, .inr (.inr (.inr (.inr (.inr (.inr (.inr (.inl ⟨rfl, H4.out⟩)))))))⟩
            case measure => simp [intOf]
          · obtain ⟨s1, s2, t', d, d2, d3, k', h1, h2, h3, h4, h5, h6, h7, h8, h9, h10, h11⟩ := HP.out 7 (by omega)
            rw [← ht] at h1
            have H4 := Lib.hid h4; have H5 := Lib.hid h5; have H11 := Lib.hid h11; clear h4 h5 h11 ht
            have h6' : floatOfInt .f64 6 = d := h6
            clear h6 h7 h8 h9 h10 HP HY HN
            go_wp2
            go_roundw
            case rel => exact ⟨_, _, (by first | rfl | simp only [World.drewN_drewN]), rfl, .inr (.inr (.inr (.inr (.inr (.inr (.inr (.inr (⟨rfl, H4.out⟩))))))))⟩
            case measure => simp [intOf]
          · have HT := Lib.hid ht; clear ht HP
            have k5' : ∀ w, fa .mul .f64 z t w = r := by rw [HT.out]; exact k5
            clear k5
            go_wp2
            go_ret
            exact .mk' _ (float_congr HA.out.symm) rfl
      · have HA := Lib.hid (HY.out c2)
        go_enter Try.func79, Try.ntmps79
        go_wp2_with fail
        go_loopw [7, 8] (fun p k wr => ∃ n t, wr = w.drewN n ∧ p = .float .f64 t ∧ ((k = .int .i64 8 ∧ t = pW u 0) ∨ (k = .int .i64 7 ∧ t = pW u 1) ∨ (k = .int .i64 6 ∧ t = pW u 2) ∨ (k = .int .i64 5 ∧ t = pW u 3) ∨ (k = .int .i64 4 ∧ t = pW u 4) ∨ (k = .int .i64 3 ∧ t = pW u 5) ∨ (k = .int .i64 2 ∧ t = pW u 6) ∨ (k = .int .i64 1 ∧ t = pW u 7) ∨ (k = .int .i64 0 ∧ t = pW u 8))) (fun _ k _ => (intOf k).toNat)
        case atStart => exact ⟨_, _, rfl, rfl, .inl ⟨rfl, rfl⟩⟩
        case round =>
          obtain ⟨n, t, rfl, rfl, hk⟩ := hrel
          rcases hk with ⟨rfl, ht⟩ | ⟨rfl, ht⟩ | ⟨rfl, ht⟩ | ⟨rfl, ht⟩ | ⟨rfl, ht⟩ | ⟨rfl, ht⟩ | ⟨rfl, ht⟩ | ⟨rfl, ht⟩ | ⟨rfl, ht⟩
          · obtain ⟨s1, s2, t', d, d2, d3, k', h1, h2, h3, h4, h5, h6, h7, h8, h9, h10, h11⟩ := HP.out 0 (by omega)
            rw [← ht] at h1
            have H4 := Lib.hid h4; have H5 := Lib.hid h5; have H11 := Lib.hid h11; clear h4 h5 h11 ht
            have h6' : floatOfInt .f64 272 = d := h6
            clear h6 h7 h8 h9 h10 HP HY HN
            go_wp2
            go_roundw
            case rel => exact ⟨_, _, (by first | rfl | simp only [World.drewN_drewN]), rfl, .inr (.inl ⟨rfl, H4.out⟩)⟩
            case measure => simp [intOf]
          · obtain ⟨s1, s2, t', d, d2, d3, k', h1, h2, h3, h4, h5, h6, h7, h8, h9, h10, h11⟩ := HP.out 1 (by omega)
            rw [← ht] at h1
            have H4 := Lib.hid h4; have H5 := Lib.hid h5; have H11 := Lib.hid h11; clear h4 h5 h11 ht
            have h6' : floatOfInt .f64 210 = d := h6
            clear h6 h7 h8 h9 h10 HP HY HN
            go_wp2
            go_roundw
            case rel => exact ⟨_, _, (by first | rfl | simp only [World.drewN_drewN]), rfl, .inr (.inr (.inl ⟨rfl, H4.out⟩))⟩
            case measure => simp [intOf]
          · obtain ⟨s1, s2, t', d, d2, d3, k', h1, h2, h3, h4, h5, h6, h7, h8, h9, h10, h11⟩ := HP.out 2 (by omega)
            rw [← ht] at h1
            have H4 := Lib.hid h4; have H5 := Lib.hid h5; have H11 := Lib.hid h11; clear h4 h5 h11 ht
            have h6' : floatOfInt .f64 156 = d := h6
            clear h6 h7 h8 h9 h10 HP HY HN
            go_wp2
            go_roundw
            case rel => exact ⟨_, _, (by first | rfl | simp only [World.drewN_drewN]), rfl, .inr (.inr (.inr (.inl ⟨rfl, H4.out⟩)))⟩
            case measure => simp [intOf]
          · obtain ⟨s1, s2, t', d, d2, d3, k', h1, h2, h3, h4, h5, h6, h7, h8, h9, h10, h11⟩ := HP.out 3 (by omega)
            rw [← ht] at h1
            have H4 := Lib.hid h4; have H5 := Lib.hid h5; have H11 := Lib.hid h11; clear h4 h5 h11 ht
            have h6' : floatOfInt .f64 110 = d := h6
            clear h6 h7 h8 h9 h10 HP HY HN
            go_wp2
            go_roundw
            case rel => exact ⟨_, _, (by first | rfl | simp only [World.drewN_drewN]), rfl, .inr (.inr (.inr (.inr (.inl ⟨rfl, H4.out⟩))))⟩
            case measure => simp [intOf]
          · obtain ⟨s1, s2, t', d, d2, d3, k', h1, h2, h3, h4, h5, h6, h7, h8, h9, h10, h11⟩ := HP.out 4 (by omega)
            rw [← ht] at h1
            have H4 := Lib.hid h4; have H5 := Lib.hid h5; have H11 := Lib.hid h11; clear h4 h5 h11 ht
            have h6' : floatOfInt .f64 72 = d := h6
            clear h6 h7 h8 h9 h10 HP HY HN
            go_wp2
            go_roundw
            case rel => exact ⟨_, _, (by first | rfl | simp only [World.drewN_drewN]), rfl, .inr (.inr (.inr (.inr (.inr (.inl ⟨rfl, H4.out⟩)))))⟩
            case measure => simp [intOf]
          · obtain ⟨s1, s2, t', d, d2, d3, k', h1, h2, h3, h4, h5, h6, h7, h8, h9, h10, h11⟩ := HP.out 5 (by omega)
            rw [← ht] at h1
            have H4 := Lib.hid h4; have H5 := Lib.hid h5; have H11 := Lib.hid h11; clear h4 h5 h11 ht
            have h6' : floatOfInt .f64 42 = d := h6
            clear h6 h7 h8 h9 h10 HP HY HN
            go_wp2
            go_roundw
            case rel => exact ⟨_, _, (by first | rfl | simp only [World.drewN_drewN]), rfl, .inr (.inr (.inr (.inr (.inr (.inr (.inl ⟨rfl, H4.out⟩))))))⟩
            case measure => simp [intOf]
          · obtain ⟨s1, s2, t', d, d2, d3, k', h1, h2, h3, h4, h5, h6, h7, h8, h9, h10, h11⟩ := HP.out 6 (by omega)
            rw [← ht] at h1
            have H4 := Lib.hid h4; have H5 := Lib.hid h5; have H11 := Lib.hid h11; clear h4 h5 h11 ht
            have h6' : floatOfInt .f64 20 = d := h6
            clear h6 h7 h8 h9 h10 HP HY HN
            go_wp2
            go_roundw
            case rel => exact ⟨_, _, (by first | rfl | simp only [World.drewN_drewN]), rfl, .inr (.inr (.inr (.inr (.inr (.inr (.inr (.inl ⟨rfl, H4.out⟩)))))))⟩
            case measure => simp [intOf]
          · obtain ⟨s1, s2, t', d, d2, d3, k', h1, h2, h3, h4, h5, h6, h7, h8, h9, h10, h11⟩ := HP.out 7 (by omega)
            rw [← ht] at h1
            have H4 := Lib.hid h4; have H5 := Lib.hid h5; have H11 := Lib.hid h11; clear h4 h5 h11 ht
            have h6' : floatOfInt .f64 6 = d := h6
            clear h6 h7 h8 h9 h10 HP HY HN
            go_wp2
            go_roundw
            case rel => exact ⟨_, _, (by first | rfl | simp only [World.drewN_drewN]), rfl, .inr (.inr (.inr (.inr (.inr (.inr (.inr (.inr (⟨rfl, H4.out⟩))))))))⟩
            case measure => simp [intOf]
          · have HT := Lib.hid ht; clear ht HP
            have k5' : ∀ w, fa .mul .f64 z t w = r := by rw [HT.out]; exact k5
            clear k5
            go_wp2
            go_ret
            exact .mk' _ (float_congr HA.out.symm) rfl
    · rcases ho2 with ⟨c3, m2⟩ | ⟨c3, rfl⟩
      · have HA := Lib.hid (HN.out c2)
        go_enter Try.func79, Try.ntmps79
        go_wp2_with fail
        go_loopw [7, 8] (fun p k wr => ∃ n t, wr = w.drewN n ∧ p = .float .f64 t ∧ ((k = .int .i64 8 ∧ t = pW u 0) ∨ (k = .int .i64 7 ∧ t = pW u 1) ∨ (k = .int .i64 6 ∧ t = pW u 2) ∨ (k = .int .i64 5 ∧ t = pW u 3) ∨ (k = .int .i64 4 ∧ t = pW u 4) ∨ (k = .int .i64 3 ∧ t = pW u 5) ∨ (k = .int .i64 2 ∧ t = pW u 6) ∨ (k = .int .i64 1 ∧ t = pW u 7) ∨ (k = .int .i64 0 ∧ t = pW u 8))) (fun _ k _ => (intOf k).toNat)
        case atStart => exact ⟨_, _, rfl, rfl, .inl ⟨rfl, rfl⟩⟩
        case round =>
          obtain ⟨n, t, rfl, rfl, hk⟩ := hrel
          rcases hk with ⟨rfl, ht⟩ | ⟨rfl, ht⟩ | ⟨rfl, ht⟩ | ⟨rfl, ht⟩ | ⟨rfl, ht⟩ | ⟨rfl, ht⟩ | ⟨rfl, ht⟩ | ⟨rfl, ht⟩ | ⟨rfl, ht⟩
          · obtain ⟨s1, s2, t', d, d2, d3, k', h1, h2, h3, h4, h5, h6, h7, h8, h9, h10, h11⟩ := HP.out 0 (by omega)
            rw [← ht] at h1
            have H4 := Lib.hid h4; have H5 := Lib.hid h5; have H11 := Lib.hid h11; clear h4 h5 h11 ht
            have h6' : floatOfInt .f64 272 = d := h6
            clear h6 h7 h8 h9 h10 HP HY HN
            go_wp2
            go_roundw
            case rel => exact ⟨_, _, (by first | rfl | simp only [World.drewN_drewN]), rfl, .inr (.inl ⟨rfl, H4.out⟩)⟩
            case measure => simp [intOf]
          · obtain ⟨s1, s2, t', d, d2, d3, k', h1, h2, h3, h4, h5, h6, h7, h8, h9, h10, h11⟩ := HP.out 1 (by omega)
            rw [← ht] at h1
            have H4 := Lib.hid h4; have H5 := Lib.hid h5; have H11 := Lib.hid h11; clear h4 h5 h11 ht
            have h6' : floatOfInt .f64 210 = d := h6
            clear h6 h7 h8 h9 h10 HP HY HN
            go_wp2
            go_roundw
            case rel => exact ⟨_, _, (by first | rfl | simp only [World.drewN_drewN]), rfl, .inr (.inr (.inl ⟨rfl, H4.out⟩))⟩
            case measure => simp [intOf]
          · obtain ⟨s1, s2, t', d, d2, d3, k', h1, h2, h3, h4, h5, h6, h7, h8, h9, h10, h11⟩ := HP.out 2 (by omega)
            rw [← ht] at h1
            have H4 := Lib.hid h4; have H5 := Lib.hid h5; have H11 := Lib.hid h11; clear h4 h5 h11 ht
            have h6' : floatOfInt .f64 156 = d := h6
            clear h6 h7 h8 h9 h10 HP HY HN
            go_wp2
            go_roundw
            case rel => exact ⟨_, _, (by first | rfl | simp only [World.drewN_drewN]), rfl, .inr (.inr (.inr (.inl ⟨rfl, H4.out⟩)))⟩
            case measure => simp [intOf]
          · obtain ⟨s1, s2, t', d, d2, d3, k', h1, h2, h3, h4, h5, h6, h7, h8, h9, h10, h11⟩ := HP.out 3 (by omega)
            rw [← ht] at h1
            have H4 := Lib.hid h4; have H5 := Lib.hid h5; have H11 := Lib.hid h11; clear h4 h5 h11 ht
            have h6' : floatOfInt .f64 110 = d := h6
            clear h6 h7 h8 h9 h10 HP HY HN
            go_wp2
            go_roundw
            case rel => exact ⟨_, _, (by first | rfl | simp only [World.drewN_drewN]), rfl, .inr (.inr (.inr (.inr (.inl ⟨rfl, H4.out⟩))))⟩
            case measure => simp [intOf]
          · obtain ⟨s1, s2, t', d, d2, d3, k', h1, h2, h3, h4, h5, h6, h7, h8, h9, h10, h11⟩ := HP.out 4 (by omega)
            rw [← ht] at h1
            have H4 := Lib.hid h4; have H5 := Lib.hid h5; have H11 := Lib.hid h11; clear h4 h5 h11 ht
            have h6' : floatOfInt .f64 72 = d := h6
            clear h6 h7 h8 h9 h10 HP HY HN
            go_wp2
            go_roundw
            case rel => exact ⟨_, _, (by first | rfl | simp only [World.drewN_drewN]), rfl, .inr (.inr (.inr (.inr (.inr (.inl ⟨rfl, H4.out⟩)))))⟩
            case measure => simp [intOf]
          · obtain ⟨s1, s2, t', d, d2, d3, k', h1, h2, h3, h4, h5, h6, h7, h8, h9, h10, h11⟩ := HP.out 5 (by omega)
            rw [← ht] at h1
            have H4 := Lib.hid h4; have H5 := Lib.hid h5; have H11 := Lib.hid h11; clear h4 h5 h11 ht
            have h6' : floatOfInt .f64 42 = d := h6
            clear h6 h7 h8 h9 h10 HP HY HN
            go_wp2
            go_roundw
            case rel => exact ⟨_, _, (by first | rfl | simp only [World.drewN_drewN]), rfl, .inr (.inr (.inr (.inr (.inr (.inr (.inl ⟨rfl, H4.out⟩))))))⟩
            case measure => simp [intOf]
          · obtain ⟨s1, s2, t', d, d2, d3, k', h1, h2, h3, h4, h5, h6, h7, h8, h9, h10, h11⟩ := HP.out 6 (by omega)
            rw [← ht] at h1
            have H4 := Lib.hid h4; have H5 := Lib.hid h5; have H11 := Lib.hid h11; clear h4 h5 h11 ht
            have h6' : floatOfInt .f64 20 = d := h6
            clear h6 h7 h8 h9 h10 HP HY HN
            go_wp2
            go_roundw
            case rel => exact ⟨_, _, (by first | rfl | simp only [World.drewN_drewN]), rfl, .inr (.inr (.inr (.inr (.inr (.inr (.inr (.inl ⟨rfl, H4.out⟩)))))))⟩
            case measure => simp [intOf]
          · obtain ⟨s1, s2, t', d, d2, d3, k', h1, h2, h3, h4, h5, h6, h7, h8, h9, h10, h11⟩ := HP.out 7 (by omega)
            rw [← ht] at h1
            have H4 := Lib.hid h4; have H5 := Lib.hid h5; have H11 := Lib.hid h11; clear h4 h5 h11 ht
            have h6' : floatOfInt .f64 6 = d := h6
            clear h6 h7 h8 h9 h10 HP HY HN
            go_wp2
            go_roundw
            case rel => exact ⟨_, _, (by first | rfl | simp only [World.drewN_drewN]), rfl, .inr (.inr (.inr (.inr (.inr (.inr (.inr (.inr (⟨rfl, H4.out⟩))))))))⟩
            case measure => simp [intOf]
          · have HT := Lib.hid ht; clear ht HP
            have k5' : ∀ w, fa .mul .f64 z t w = r := by rw [HT.out]; exact k5
            clear k5
            go_wp2
            go_ret
            exact .mk' _ (float_congr HA.out.symm) rfl
      · have HA := Lib.hid (HN.out c2)
        go_enter Try.func79, Try.ntmps79
        go_wp2_with fail
        go_loopw [7, 8] (fun p k wr => ∃ n t, wr = w.drewN n ∧ p = .float .f64 t ∧ ((k = .int .i64 8 ∧ t = pW u 0) ∨ (k = .int .i64 7 ∧ t = pW u 1) ∨ (k = .int .i64 6 ∧ t = pW u 2) ∨ (k = .int .i64 5 ∧ t = pW u 3) ∨ (k = .int .i64 4 ∧ t = pW u 4) ∨ (k = .int .i64 3 ∧ t = pW u 5) ∨ (k = .int .i64 2 ∧ t = pW u 6) ∨ (k = .int .i64 1 ∧ t = pW u 7) ∨ (k = .int .i64 0 ∧ t = pW u 8))) (fun _ k _ => (intOf k).toNat)
        case atStart => exact ⟨_, _, rfl, rfl, .inl ⟨rfl, rfl⟩⟩
        case round =>
          obtain ⟨n, t, rfl, rfl, hk⟩ := hrel
          rcases hk with ⟨rfl, ht⟩ | ⟨rfl, ht⟩ | ⟨rfl, ht⟩ | ⟨rfl, ht⟩ | ⟨rfl, ht⟩ | ⟨rfl, ht⟩ | ⟨rfl, ht⟩ | ⟨rfl, ht⟩ | ⟨rfl, ht⟩
          · obtain ⟨s1, s2, t', d, d2, d3, k', h1, h2, h3, h4, h5, h6, h7, h8, h9, h10, h11⟩ := HP.out 0 (by omega)
            rw [← ht] at h1
            have H4 := Lib.hid h4; have H5 := Lib.hid h5; have H11 := Lib.hid h11; clear h4 h5 h11 ht
            have h6' : floatOfInt .f64 272 = d := h6
            clear h6 h7 h8 h9 h10 HP HY HN
            go_wp2
            go_roundw
            case rel => exact ⟨_, _, (by first | rfl | simp only [World.drewN_drewN]), rfl, .inr (.inl ⟨rfl, H4.out⟩)⟩
            case measure => simp [intOf]
          · obtain ⟨s1, s2, t', d, d2, d3, k', h1, h2, h3, h4, h5, h6, h7, h8, h9, h10, h11⟩ := HP.out 1 (by omega)
            rw [← ht] at h1
            have H4 := Lib.hid h4; have H5 := Lib.hid h5; have H11 := Lib.hid h11; clear h4 h5 h11 ht
            have h6' : floatOfInt .f64 210 = d := h6
            clear h6 h7 h8 h9 h10 HP HY HN
            go_wp2
            go_roundw
            case rel => exact ⟨_, _, (by first | rfl | simp only [World.drewN_drewN]), rfl, .inr (.inr (.inl ⟨rfl, H4.out⟩))⟩
            case measure => simp [intOf]
          · obtain ⟨s1, s2, t', d, d2, d3, k', h1, h2, h3, h4, h5, h6, h7, h8, h9, h10, h11⟩ := HP.out 2 (by omega)
            rw [← ht] at h1
            have H4 := Lib.hid h4; have H5 := Lib.hid h5; have H11 := Lib.hid h11; clear h4 h5 h11 ht
            have h6' : floatOfInt .f64 156 = d := h6
            clear h6 h7 h8 h9 h10 HP HY HN
            go_wp2
            go_roundw
            case rel => exact ⟨_, _, (by first | rfl | simp only [World.drewN_drewN]), rfl, .inr (.inr (.inr (.inl ⟨rfl, H4.out⟩)))⟩
            case measure => simp [intOf]
          · obtain ⟨s1, s2, t', d, d2, d3, k', h1, h2, h3, h4, h5, h6, h7, h8, h9, h10, h11⟩ := HP.out 3 (by omega)
            rw [← ht] at h1
            have H4 := Lib.hid h4; have H5 := Lib.hid h5; have H11 := Lib.hid h11; clear h4 h5 h11 ht
            have h6' : floatOfInt .f64 110 = d := h6
            clear h6 h7 h8 h9 h10 HP HY HN
            go_wp2
            go_roundw
            case rel => exact ⟨_, _, (by first | rfl | simp only [World.drewN_drewN]), rfl, .inr (.inr (.inr (.inr (.inl ⟨rfl, H4.out⟩))))⟩
            case measure => simp [intOf]
          · obtain ⟨s1, s2, t', d, d2, d3, k', h1, h2, h3, h4, h5, h6, h7, h8, h9, h10, h11⟩ := HP.out 4 (by omega)
            rw [← ht] at h1
            have H4 := Lib.hid h4; have H5 := Lib.hid h5; have H11 := Lib.hid h11; clear h4 h5 h11 ht
            have h6' : floatOfInt .f64 72 = d := h6
            clear h6 h7 h8 h9 h10 HP HY HN
            go_wp2
            go_roundw
            case rel => exact ⟨_, _, (by first | rfl | simp only [World.drewN_drewN]), rfl, .inr (.inr (.inr (.inr (.inr (.inl ⟨rfl, H4.out⟩)))))⟩
            case measure => simp [intOf]
          · obtain ⟨s1, s2, t', d, d2, d3, k', h1, h2, h3, h4, h5, h6, h7, h8, h9, h10, h11⟩ := HP.out 5 (by omega)
            rw [← ht] at h1
            have H4 := Lib.hid h4; have H5 := Lib.hid h5; have H11 := Lib.hid h11; clear h4 h5 h11 ht
            have h6' : floatOfInt .f64 42 = d := h6
            clear h6 h7 h8 h9 h10 HP HY HN
            go_wp2
            go_roundw
            case rel => exact ⟨_, _, (by first | rfl | simp only [World.drewN_drewN]), rfl, .inr (.inr (.inr (.inr (.inr (.inr (.inl ⟨rfl, H4.out⟩))))))⟩
            case measure => simp [intOf]
          · obtain ⟨s1, s2, t', d, d2, d3, k', h1, h2, h3, h4, h5, h6, h7, h8, h9, h10, h11⟩ := HP.out 6 (by omega)
            rw [← ht] at h1
            have H4 := Lib.hid h4; have H5 := Lib.hid h5; have H11 := Lib.hid h11; clear h4 h5 h11 ht
            have h6' : floatOfInt .f64 20 = d := h6
            clear h6 h7 h8 h9 h10 HP HY HN
            go_wp2
            go_roundw
            case rel => exact ⟨_, _, (by first | rfl | simp only [World.drewN_drewN]), rfl, .inr (.inr (.inr (.inr (.inr (.inr (.inr (.inl ⟨rfl, H4.out⟩)))))))⟩
            case measure => simp [intOf]
          · obtain ⟨s1, s2, t', d, d2, d3, k', h1, h2, h3, h4, h5, h6, h7, h8, h9, h10, h11⟩ := HP.out 7 (by omega)
            rw [← ht] at h1
            have H4 := Lib.hid h4; have H5 := Lib.hid h5; have H11 := Lib.hid h11; clear h4 h5 h11 ht
            have h6' : floatOfInt .f64 6 = d := h6
            clear h6 h7 h8 h9 h10 HP HY HN
            go_wp2
            go_roundw
            case rel => exact ⟨_, _, (by first | rfl | simp only [World.drewN_drewN]), rfl, .inr (.inr (.inr (.inr (.inr (.inr (.inr (.inr (⟨rfl, H4.out⟩))))))))⟩
            case measure => simp [intOf]
          · have HT := Lib.hid ht; clear ht HP
            have k5' : ∀ w, fa .mul .f64 z t w = r := by rw [HT.out]; exact k5
            clear k5
            go_wp2
            go_ret
            exact .mk' _ (float_congr HA.out.symm) rfl
  · rcases ho1 with ⟨c2, m1⟩ | ⟨c2, rfl⟩
    · rcases ho2 with ⟨c3, m2⟩ | ⟨c3, rfl⟩
      · have HA := Lib.hid (HY.out c2)
        go_enter Try.func79, Try.ntmps79
        go_wp2_with fail
        go_loopw [7, 8] (fun p k wr => ∃ n t, wr = w.drewN n ∧ p = .float .f64 t ∧ ((k = .int .i64 8 ∧ t = pW u 0) ∨ (k = .int .i64 7 ∧ t = pW u 1) ∨ (k = .int .i64 6 ∧ t = pW u 2) ∨ (k = .int .i64 5 ∧ t = pW u 3) ∨ (k = .int .i64 4 ∧ t = pW u 4) ∨ (k = .int .i64 3 ∧ t = pW u 5) ∨ (k = .int .i64 2 ∧ t = pW u 6) ∨ (k = .int .i64 1 ∧ t = pW u 7) ∨ (k = .int .i64 0 ∧ t = pW u 8))) (fun _ k _ => (intOf k).toNat)
        case atStart => exact ⟨_, _, rfl, rfl, .inl ⟨rfl, rfl⟩⟩
        case round =>
          obtain ⟨n, t, rfl, rfl, hk⟩ := hrel
          rcases hk with ⟨rfl, ht⟩ | ⟨rfl, ht⟩ | ⟨rfl, ht⟩ | ⟨rfl, ht⟩ | ⟨rfl, ht⟩ | ⟨rfl, ht⟩ | ⟨rfl, ht⟩ | ⟨rfl, ht⟩ | ⟨rfl, ht⟩
          · obtain ⟨s1, s2, t', d, d2, d3, k', h1, h2, h3, h4, h5, h6, h7, h8, h9, h10, h11⟩ := HP.out 0 (by omega)
            rw [← ht] at h1
            have H4 := Lib.hid h4; have H5 := Lib.hid h5; have H11 := Lib.hid h11; clear h4 h5 h11 ht
            have h6' : floatOfInt .f64 272 = d := h6
            clear h6 h7 h8 h9 h10 HP HY HN
            go_wp2
            go_roundw
            case rel => exact ⟨_, _, (by first | rfl | simp only [World.drewN_drewN]), rfl, .inr (.inl ⟨rfl, H4.out⟩)⟩
            case measure => simp [intOf]
          · obtain ⟨s1, s2, t', d, d2, d3, k', h1, h2, h3, h4, h5, h6, h7, h8, h9, h10, h11⟩ := HP.out 1 (by omega)
            rw [← ht] at h1
            have H4 := Lib.hid h4; have H5 := Lib.hid h5; have H11 := Lib.hid h11; clear h4 h5 h11 ht
            have h6' : floatOfInt .f64 210 = d := h6
            clear h6 h7 h8 h9 h10 HP HY HN
            go_wp2
            go_roundw
            case rel => exact ⟨_, _, (by first | rfl | simp only [World.drewN_drewN]), rfl, .inr (.inr (.inl ⟨rfl, H4.out⟩))⟩
            case measure => simp [intOf]
          · obtain ⟨s1, s2, t', d, d2, d3, k', h1, h2, h3, h4, h5, h6, h7, h8, h9, h10, h11⟩ := HP.out 2 (by omega)
            rw [← ht] at h1
            have H4 := Lib.hid h4; have H5 := Lib.hid h5; have H11 := Lib.hid h11; clear h4 h5 h11 ht
            have h6' : floatOfInt .f64 156 = d := h6
            clear h6 h7 h8 h9 h10 HP HY HN
            go_wp2
            go_roundw
            case rel => exact ⟨_, _, (by first | rfl | simp only [World.drewN_drewN]), rfl, .inr (.inr (.inr (.inl ⟨rfl, H4.out⟩)))⟩
            case measure => simp [intOf]
          · obtain ⟨s1, s2, t', d, d2, d3, k', h1, h2, h3, h4, h5, h6, h7, h8, h9, h10, h11⟩ := HP.out 3 (by omega)
            rw [← ht] at h1
            have H4 := Lib.hid h4; have H5 := Lib.hid h5; have H11 := Lib.hid h11; clear h4 h5 h11 ht
            have h6' : floatOfInt .f64 110 = d := h6
            clear h6 h7 h8 h9 h10 HP HY HN
            go_wp2
            go_roundw
            case rel => exact ⟨_, _, (by first | rfl | simp only [World.drewN_drewN]), rfl, .inr (.inr (.inr (.inr (.inl ⟨rfl, H4.out⟩))))⟩
            case measure => simp [intOf]
          · obtain ⟨s1, s2, t', d, d2, d3, k', h1, h2, h3, h4, h5, h6, h7, h8, h9, h10, h11⟩ := HP.out 4 (by omega)
            rw [← ht] at h1
            have H4 := Lib.hid h4; have H5 := Lib.hid h5; have H11 := Lib.hid h11; clear h4 h5 h11 ht
            have h6' : floatOfInt .f64 72 = d := h6
            clear h6 h7 h8 h9 h10 HP HY HN
            go_wp2
            go_roundw
            case rel => exact ⟨_, _, (by first | rfl | simp only [World.drewN_drewN]), rfl, .inr (.inr (.inr (.inr (.inr (.inl ⟨rfl, H4.out⟩)))))⟩
            case measure => simp [intOf]
          · obtain ⟨s1, s2, t', d, d2, d3, k', h1, h2, h3, h4, h5, h6, h7, h8, h9, h10, h11⟩ := HP.out 5 (by omega)
            rw [← ht] at h1
            have H4 := Lib.hid h4; have H5 := Lib.hid h5; have H11 := Lib.hid h11; clear h4 h5 h11 ht
            have h6' : floatOfInt .f64 42 = d := h6
            clear h6 h7 h8 h9 h10 HP HY HN
            go_wp2
            go_roundw
            case rel => exact ⟨_, _, (by first | rfl | simp only [World.drewN_drewN]), rfl, .inr (.inr (.inr (.inr (.inr (.inr (.inl ⟨rfl, H4.out⟩))))))⟩
            case measure => simp [intOf]
          · obtain ⟨s1, s2, t', d, d2, d3, k', h1, h2, h3, h4, h5, h6, h7, h8, h9, h10, h11⟩ := HP.out 6 (by omega)
            rw [← ht] at h1
            have H4 := Lib.hid h4; have H5 := Lib.hid h5; have H11 := Lib.hid h11; clear h4 h5 h11 ht
            have h6' : floatOfInt .f64 20 = d := h6
            clear h6 h7 h8 h9 h10 HP HY HN
            go_wp2
            go_roundw
            case rel => exact ⟨_, _, (by first | rfl | simp only [World.drewN_drewN]), rfl, .inr (.inr (.inr (.inr (.inr (.inr (.inr (.inl ⟨rfl, H4.out⟩)))))))⟩
            case measure => simp [intOf]
          · obtain ⟨s1, s2, t', d, d2, d3, k', h1, h2, h3, h4, h5, h6, h7, h8, h9, h10, h11⟩ := HP.out 7 (by omega)
            rw [← ht] at h1
            have H4 := Lib.hid h4; have H5 := Lib.hid h5; have H11 := Lib.hid h11; clear h4 h5 h11 ht
            have h6' : floatOfInt .f64 6 = d := h6
            clear h6 h7 h8 h9 h10 HP HY HN
            go_wp2
            go_roundw
            case rel => exact ⟨_, _, (by first | rfl | simp only [World.drewN_drewN]), rfl, .inr (.inr (.inr (.inr (.inr (.inr (.inr (.inr (⟨rfl, H4.out⟩))))))))⟩
            case measure => simp [intOf]
          · have HT := Lib.hid ht; clear ht HP
            have k5' : ∀ w, fa .mul .f64 z t w = r := by rw [HT.out]; exact k5
            clear k5
            go_wp2
            go_ret
            exact .mk' _ (float_congr HA.out.symm) rfl
      · have HA := Lib.hid (HY.out c2)
        go_enter Try.func79, Try.ntmps79
        go_wp2_with fail
        go_loopw [7, 8] (fun p k wr => ∃ n t, wr = w.drewN n ∧ p = .float .f64 t ∧ ((k = .int .i64 8 ∧ t = pW u 0) ∨ (k = .int .i64 7 ∧ t = pW u 1) ∨ (k = .int .i64 6 ∧ t = pW u 2) ∨ (k = .int .i64 5 ∧ t = pW u 3) ∨ (k = .int .i64 4 ∧ t = pW u 4) ∨ (k = .int .i64 3 ∧ t = pW u 5) ∨ (k = .int .i64 2 ∧ t = pW u 6) ∨ (k = .int .i64 1 ∧ t = pW u 7) ∨ (k = .int .i64 0 ∧ t = pW u 8))) (fun _ k _ => (intOf k).toNat)
        case atStart => exact ⟨_, _, rfl, rfl, .inl ⟨rfl, rfl⟩⟩
        case round =>
          obtain ⟨n, t, rfl, rfl, hk⟩ := hrel
          rcases hk with ⟨rfl, ht⟩ | ⟨rfl, ht⟩ | ⟨rfl, ht⟩ | ⟨rfl, ht⟩ | ⟨rfl, ht⟩ | ⟨rfl, ht⟩ | ⟨rfl, ht⟩ | ⟨rfl, ht⟩ | ⟨rfl, ht⟩
          · obtain ⟨s1, s2, t', d, d2, d3, k', h1, h2, h3, h4, h5, h6, h7, h8, h9, h10, h11⟩ := HP.out 0 (by omega)
            rw [← ht] at h1
            have H4 := Lib.hid h4; have H5 := Lib.hid h5; have H11 := Lib.hid h11; clear h4 h5 h11 ht
            have h6' : floatOfInt .f64 272 = d := h6
            clear h6 h7 h8 h9 h10 HP HY HN
            go_wp2
            go_roundw
            case rel => exact ⟨_, _, (by first | rfl | simp only [World.drewN_drewN]), rfl, .inr (.inl ⟨rfl, H4.out⟩)⟩
            case measure => simp [intOf]
          · obtain ⟨s1, s2, t', d, d2, d3, k', h1, h2, h3, h4, h5, h6, h7, h8, h9, h10, h11⟩ := HP.out 1 (by omega)
            rw [← ht] at h1
            have H4 := Lib.hid h4; have H5 := Lib.hid h5; have H11 := Lib.hid h11; clear h4 h5 h11 ht
            have h6' : floatOfInt .f64 210 = d := h6
            clear h6 h7 h8 h9 h10 HP HY HN
            go_wp2
            go_roundw
            case rel => exact ⟨_, _, (by first | rfl | simp only [World.drewN_drewN]), rfl, .inr (.inr (.inl ⟨rfl, H4.out⟩))⟩
            case measure => simp [intOf]
          · obtain ⟨s1, s2, t', d, d2, d3, k', h1, h2, h3, h4, h5, h6, h7, h8, h9, h10, h11⟩ := HP.out 2 (by omega)
            rw [← ht] at h1
            have H4 := Lib.hid h4; have H5 := Lib.hid h5; have H11 := Lib.hid h11; clear h4 h5 h11 ht
            have h6' : floatOfInt .f64 156 = d := h6
            clear h6 h7 h8 h9 h10 HP HY HN
            go_wp2
            go_roundw
            case rel => exact ⟨_, _, (by first | rfl | simp only [World.drewN_drewN]), rfl, .inr (.inr (.inr (.inl ⟨rfl, H4.out⟩)))⟩
            case measure => simp [intOf]
          · obtain ⟨s1, s2, t', d, d2, d3, k', h1, h2, h3, h4, h5, h6, h7, h8, h9, h10, h11⟩ := HP.out 3 (by omega)
            rw [← ht] at h1
            have H4 := Lib.hid h4; have H5 := Lib.hid h5; have H11 := Lib.hid h11; clear h4 h5 h11 ht
            have h6' : floatOfInt .f64 110 = d := h6
            clear h6 h7 h8 h9 h10 HP HY HN
            go_wp2
            go_roundw
            case rel => exact ⟨_, _, (by first | rfl | simp only [World.drewN_drewN]), rfl, .inr (.inr (.inr (.inr (.inl ⟨rfl, H4.out⟩))))⟩
            case measure => simp [intOf]
          · obtain ⟨s1, s2, t', d, d2, d3, k', h1, h2, h3, h4, h5, h6, h7, h8, h9, h10, h11⟩ := HP.out 4 (by omega)
            rw [← ht] at h1
            have H4 := Lib.hid h4; have H5 := Lib.hid h5; have H11 := Lib.hid h11; clear h4 h5 h11 ht
            have h6' : floatOfInt .f64 72 = d := h6
            clear h6 h7 h8 h9 h10 HP HY HN
            go_wp2
            go_roundw
            case rel => exact ⟨_, _, (by first | rfl | simp only [World.drewN_drewN]), rfl, .inr (.inr (.inr (.inr (.inr (.inl ⟨rfl, H4.out⟩)))))⟩
            case measure => simp [intOf]
          · obtain ⟨s1, s2, t', d, d2, d3, k', h1, h2, h3, h4, h5, h6, h7, h8, h9, h10, h11⟩ := HP.out 5 (by omega)
            rw [← ht] at h1
            have H4 := Lib.hid h4; have H5 := Lib.hid h5; have H11 := Lib.hid h11; clear h4 h5 h11 ht
            have h6' : floatOfInt .f64 42 = d := h6
            clear h6 h7 h8 h9 h10 HP HY HN
            go_wp2
            go_roundw
            case rel => exact ⟨_, _, (by first | rfl | simp only [World.drewN_drewN]), rfl, .inr (.inr (.inr (.inr (.inr (.inr (.inl ⟨rfl, H4.out⟩))))))⟩
            case measure => simp [intOf]
          · obtain ⟨s1, s2, t', d, d2, d3, k', h1, h2, h3, h4, h5, h6, h7, h8, h9, h10, h11⟩ := HP.out 6 (by omega)
            rw [← ht] at h1
            have H4 := Lib.hid h4; have H5 := Lib.hid h5; have H11 := Lib.hid h11; clear h4 h5 h11 ht
            have h6' : floatOfInt .f64 20 = d := h6
            clear h6 h7 h8 h9 h10 HP HY HN
            go_wp2
            go_roundw
            case rel => exact ⟨_, _, (by first | rfl | simp only [World.drewN_drewN]), rfl, .inr (.inr (.inr (.inr (.inr (.inr (.inr (.inl ⟨rfl, H4.out⟩)))))))⟩
            case measure => simp [intOf]
          · obtain ⟨s1, s2, t', d, d2, d3, k', h1, h2, h3, h4, h5, h6, h7, h8, h9, h10, h11⟩ := HP.out 7 (by omega)
            rw [← ht] at h1
            have H4 := Lib.hid h4; have H5 := Lib.hid h5; have H11 := Lib.hid h11; clear h4 h5 h11 ht
            have h6' : floatOfInt .f64 6 = d := h6
            clear h6 h7 h8 h9 h10 HP HY HN
            go_wp2
            go_roundw
            case rel => exact ⟨_, _, (by first | rfl | simp only [World.drewN_drewN]), rfl, .inr (.inr (.inr (.inr (.inr (.inr (.inr (.inr (⟨rfl, H4.out⟩))))))))⟩
            case measure => simp [intOf]
          · have HT := Lib.hid ht; clear ht HP
            have k5' : ∀ w, fa .mul .f64 z t w = r := by rw [HT.out]; exact k5
            clear k5
            go_wp2
            go_ret
            exact .mk' _ (float_congr HA.out.symm) rfl
    · rcases ho2 with ⟨c3, m2⟩ | ⟨c3, rfl⟩
      · have HA := Lib.hid (HN.out c2)
        go_enter Try.func79, Try.ntmps79
        go_wp2_with fail
        go_loopw [7, 8] (fun p k wr => ∃ n t, wr = w.drewN n ∧ p = .float .f64 t ∧ ((k = .int .i64 8 ∧ t = pW u 0) ∨ (k = .int .i64 7 ∧ t = pW u 1) ∨ (k = .int .i64 6 ∧ t = pW u 2) ∨ (k = .int .i64 5 ∧ t = pW u 3) ∨ (k = .int .i64 4 ∧ t = pW u 4) ∨ (k = .int .i64 3 ∧ t = pW u 5) ∨ (k = .int .i64 2 ∧ t = pW u 6) ∨ (k = .int .i64 1 ∧ t = pW u 7) ∨ (k = .int .i64 0 ∧ t = pW u 8))) (fun _ k _ => (intOf k).toNat)
        case atStart => exact ⟨_, _, rfl, rfl, .inl ⟨rfl, rfl⟩⟩
        case round =>
          obtain ⟨n, t, rfl, rfl, hk⟩ := hrel
          rcases hk with ⟨rfl, ht⟩ | ⟨rfl, ht⟩ | ⟨rfl, ht⟩ | ⟨rfl, ht⟩ | ⟨rfl, ht⟩ | ⟨rfl, ht⟩ | ⟨rfl, ht⟩ | ⟨rfl, ht⟩ | ⟨rfl, ht⟩
          · obtain ⟨s1, s2, t', d, d2, d3, k', h1, h2, h3, h4, h5, h6, h7, h8, h9, h10, h11⟩ := HP.out 0 (by omega)
            rw [← ht] at h1
            have H4 := Lib.hid h4; have H5 := Lib.hid h5; have H11 := Lib.hid h11; clear h4 h5 h11 ht
            have h6' : floatOfInt .f64 272 = d := h6
            clear h6 h7 h8 h9 h10 HP HY HN
            go_wp2
            go_roundw
            case rel => exact ⟨_, _, (by first | rfl | simp only [World.drewN_drewN]), rfl, .inr (.inl ⟨rfl, H4.out⟩)⟩
            case measure => simp [intOf]
          · obtain ⟨s1, s2, t', d, d2, d3, k', h1, h2, h3, h4, h5, h6, h7, h8, h9, h10, h11⟩ := HP.out 1 (by omega)
            rw [← ht] at h1
            have H4 := Lib.hid h4; have H5 := Lib.hid h5; have H11 := Lib.hid h11; clear h4 h5 h11 ht
            have h6' : floatOfInt .f64 210 = d := h6
            clear h6 h7 h8 h9 h10 HP HY HN
            go_wp2
            go_roundw
            case rel => exact ⟨_, _, (by first | rfl | simp only [World.drewN_drewN]), rfl, .inr (.inr (.inl ⟨rfl, H4.out⟩))⟩
            case measure => simp [intOf]
          · obtain ⟨s1, s2, t', d, d2, d3, k', h1, h2, h3, h4, h5, h6, h7, h8, h9, h10, h11⟩ := HP.out 2 (by omega)
            rw [← ht] at h1
            have H4 := Lib.hid h4; have H5 := Lib.hid h5; have H11 := Lib.hid h11; clear h4 h5 h11 ht
            have h6' : floatOfInt .f64 156 = d := h6
            clear h6 h7 h8 h9 h10 HP HY HN
            go_wp2
            go_roundw
            case rel => exact ⟨_, _, (by first | rfl | simp only [World.drewN_drewN]), rfl, .inr (.inr (.inr (.inl ⟨rfl, H4.out⟩)))⟩
            case measure => simp [intOf]
          · obtain ⟨s1, s2, t', d, d2, d3, k', h1, h2, h3, h4, h5, h6, h7, h8, h9, h10, h11⟩ := HP.out 3 (by omega)
            rw [← ht] at h1
            have H4 := Lib.hid h4; have H5 := Lib.hid h5; have H11 := Lib.hid h11; clear h4 h5 h11 ht
            have h6' : floatOfInt .f64 110 = d := h6
            clear h6 h7 h8 h9 h10 HP HY HN
            go_wp2
            go_roundw
            case rel => exact ⟨_, _, (by first | rfl | simp only [World.drewN_drewN]), rfl, .inr (.inr (.inr (.inr (.inl ⟨rfl, H4.out⟩))))⟩
            case measure => simp [intOf]
          · obtain ⟨s1, s2, t', d, d2, d3, k', h1, h2, h3, h4, h5, h6, h7, h8, h9, h10, h11⟩ := HP.out 4 (by omega)
            rw [← ht] at h1
            have H4 := Lib.hid h4; have H5 := Lib.hid h5; have H11 := Lib.hid h11; clear h4 h5 h11 ht
            have h6' : floatOfInt .f64 72 = d := h6
            clear h6 h7 h8 h9 h10 HP HY HN
            go_wp2
            go_roundw
            case rel => exact ⟨_, _, (by first | rfl | simp only [World.drewN_drewN]), rfl, .inr (.inr (.inr (.inr (.inr (.inl ⟨rfl, H4.out⟩)))))⟩
            case measure => simp [intOf]
          · obtain ⟨s1, s2, t', d, d2, d3, k', h1, h2, h3, h4, h5, h6, h7, h8, h9, h10, h11⟩ := HP.out 5 (by omega)
            rw [← ht] at h1
            have H4 := Lib.hid h4; have H5 := Lib.hid h5; have H11 := Lib.hid h11; clear h4 h5 h11 ht
            have h6' : floatOfInt .f64 42 = d := h6
            clear h6 h7 h8 h9 h10 HP HY HN
            go_wp2
            go_roundw
            case rel => exact ⟨_, _, (by first | rfl | simp only [World.drewN_drewN]), rfl, .inr (.inr (.inr (.inr (.inr (.inr (.inl ⟨rfl, H4.out⟩))))))⟩
            case measure => simp [intOf]
          · obtain ⟨s1, s2, t', d, d2, d3, k', h1, h2, h3, h4, h5, h6, h7, h8, h9, h10, h11⟩ := HP.out 6 (by omega)
            rw [← ht] at h1
            have H4 := Lib.hid h4; have H5 := Lib.hid h5; have H11 := Lib.hid h11; clear h4 h5 h11 ht
            have h6' : floatOfInt .f64 20 = d := h6
            clear h6 h7 h8 h9 h10 HP HY HN
            go_wp2
            go_roundw
            case rel => exact ⟨_, _, (by first | rfl | simp only [World.drewN_drewN]), rfl, .inr (.inr (.inr (.inr (.inr (.inr (.inr (.inl ⟨rfl, H4.out⟩)))))))⟩
            case measure => simp [intOf]
          · obtain ⟨s1, s2, t', d, d2, d3, k', h1, h2, h3, h4, h5, h6, h7, h8, h9, h10, h11⟩ := HP.out 7 (by omega)
            rw [← ht] at h1
            have H4 := Lib.hid h4; have H5 := Lib.hid h5; have H11 := Lib.hid h11; clear h4 h5 h11 ht
            have h6' : floatOfInt .f64 6 = d := h6
            clear h6 h7 h8 h9 h10 HP HY HN
            go_wp2
            go_roundw
            case rel => exact ⟨_, _, (by first | rfl | simp only [World.drewN_drewN]), rfl, .inr (.inr (.inr (.inr (.inr (.inr (.inr (.inr (⟨rfl, H4.out⟩))))))))⟩
            case measure => simp [intOf]
          · have HT := Lib.hid ht; clear ht HP
            have k5' : ∀ w, fa .mul .f64 z t w = r := by rw [HT.out]; exact k5
            clear k5
            go_wp2
            go_ret
            exact .mk' _ (float_congr HA.out.symm) rfl
      · have HA := Lib.hid (HN.out c2)
        go_enter Try.func79, Try.ntmps79
        go_wp2_with fail
        go_loopw [7, 8] (fun p k wr => ∃ n t, wr = w.drewN n ∧ p = .float .f64 t ∧ ((k = .int .i64 8 ∧ t = pW u 0) ∨ (k = .int .i64 7 ∧ t = pW u 1) ∨ (k = .int .i64 6 ∧ t = pW u 2) ∨ (k = .int .i64 5 ∧ t = pW u 3) ∨ (k = .int .i64 4 ∧ t = pW u 4) ∨ (k = .int .i64 3 ∧ t = pW u 5) ∨ (k = .int .i64 2 ∧ t = pW u 6) ∨ (k = .int .i64 1 ∧ t = pW u 7) ∨ (k = .int .i64 0 ∧ t = pW u 8))) (fun _ k _ => (intOf k).toNat)
        case atStart => exact ⟨_, _, rfl, rfl, .inl ⟨rfl, rfl⟩⟩
        case round =>
          obtain ⟨n, t, rfl, rfl, hk⟩ := hrel
          rcases hk with ⟨rfl, ht⟩ | ⟨rfl, ht⟩ | ⟨rfl, ht⟩ | ⟨rfl, ht⟩ | ⟨rfl, ht⟩ | ⟨rfl, ht⟩ | ⟨rfl, ht⟩ | ⟨rfl, ht⟩ | ⟨rfl, ht⟩
          · obtain ⟨s1, s2, t', d, d2, d3, k', h1, h2, h3, h4, h5, h6, h7, h8, h9, h10, h11⟩ := HP.out 0 (by omega)
            rw [← ht] at h1
            have H4 := Lib.hid h4; have H5 := Lib.hid h5; have H11 := Lib.hid h11; clear h4 h5 h11 ht
            have h6' : floatOfInt .f64 272 = d := h6
            clear h6 h7 h8 h9 h10 HP HY HN
            go_wp2
            go_roundw
            case rel => exact ⟨_, _, (by first | rfl | simp only [World.drewN_drewN]), rfl, .inr (.inl ⟨rfl, H4.out⟩)⟩
            case measure => simp [intOf]
          · obtain ⟨s1, s2, t', d, d2, d3, k', h1, h2, h3, h4, h5, h6, h7, h8, h9, h10, h11⟩ := HP.out 1 (by omega)
            rw [← ht] at h1
            have H4 := Lib.hid h4; have H5 := Lib.hid h5; have H11 := Lib.hid h11; clear h4 h5 h11 ht
            have h6' : floatOfInt .f64 210 = d := h6
            clear h6 h7 h8 h9 h10 HP HY HN
            go_wp2
            go_roundw
            case rel => exact ⟨_, _, (by first | rfl | simp only [World.drewN_drewN]), rfl, .inr (.inr (.inl ⟨rfl, H4.out⟩))⟩
            case measure => simp [intOf]
          · obtain ⟨s1, s2, t', d, d2, d3, k', h1, h2, h3, h4, h5, h6, h7, h8, h9, h10, h11⟩ := HP.out 2 (by omega)
            rw [← ht] at h1
            have H4 := Lib.hid h4; have H5 := Lib.hid h5; have H11 := Lib.hid h11; clear h4 h5 h11 ht
            have h6' : floatOfInt .f64 156 = d := h6
            clear h6 h7 h8 h9 h10 HP HY HN
            go_wp2
            go_roundw
            case rel => exact ⟨_, _, (by first | rfl | simp only [World.drewN_drewN]), rfl, .inr (.inr (.inr (.inl ⟨rfl, H4.out⟩)))⟩
            case measure => simp [intOf]
          · obtain ⟨s1, s2, t', d, d2, d3, k', h1, h2, h3, h4, h5, h6, h7, h8, h9, h10, h11⟩ := HP.out 3 (by omega)
            rw [← ht] at h1
            have H4 := Lib.hid h4; have H5 := Lib.hid h5; have H11 := Lib.hid h11; clear h4 h5 h11 ht
            have h6' : floatOfInt .f64 110 = d := h6
            clear h6 h7 h8 h9 h10 HP HY HN
            go_wp2
            go_roundw
            case rel => exact ⟨_, _, (by first | rfl | simp only [World.drewN_drewN]), rfl, .inr (.inr (.inr (.inr (.inl ⟨rfl, H4.out⟩))))⟩
            case measure => simp [intOf]
          · obtain ⟨s1, s2, t', d, d2, d3, k', h1, h2, h3, h4, h5, h6, h7, h8, h9, h10, h11⟩ := HP.out 4 (by omega)
            rw [← ht] at h1
            have H4 := Lib.hid h4; have H5 := Lib.hid h5; have H11 := Lib.hid h11; clear h4 h5 h11 ht
            have h6' : floatOfInt .f64 72 = d := h6
            clear h6 h7 h8 h9 h10 HP HY HN
            go_wp2
            go_roundw
            case rel => exact ⟨_, _, (by first | rfl | simp only [World.drewN_drewN]), rfl, .inr (.inr (.inr (.inr (.inr (.inl ⟨rfl, H4.out⟩)))))⟩
            case measure => simp [intOf]
          · obtain ⟨s1, s2, t', d, d2, d3, k', h1, h2, h3, h4, h5, h6, h7, h8, h9, h10, h11⟩ := HP.out 5 (by omega)
            rw [← ht] at h1
            have H4 := Lib.hid h4; have H5 := Lib.hid h5; have H11 := Lib.hid h11; clear h4 h5 h11 ht
            have h6' : floatOfInt .f64 42 = d := h6
            clear h6 h7 h8 h9 h10 HP HY HN
            go_wp2
            go_roundw
            case rel => exact ⟨_, _, (by first | rfl | simp only [World.drewN_drewN]), rfl, .inr (.inr (.inr (.inr (.inr (.inr (.inl ⟨rfl, H4.out⟩))))))⟩
            case measure => simp [intOf]
          · obtain ⟨s1, s2, t', d, d2, d3, k', h1, h2, h3, h4, h5, h6, h7, h8, h9, h10, h11⟩ := HP.out 6 (by omega)
            rw [← ht] at h1
            have H4 := Lib.hid h4; have H5 := Lib.hid h5; have H11 := Lib.hid h11; clear h4 h5 h11 ht
            have h6' : floatOfInt .f64 20 = d := h6
            clear h6 h7 h8 h9 h10 HP HY HN
            go_wp2
            go_roundw
            case rel => exact ⟨_, _, (by first | rfl | simp only [World.drewN_drewN]), rfl, .inr (.inr (.inr (.inr (.inr (.inr (.inr (.inl ⟨rfl, H4.out⟩)))))))⟩
            case measure => simp [intOf]
          · obtain ⟨s1, s2, t', d, d2, d3, k', h1, h2, h3, h4, h5, h6, h7, h8, h9, h10, h11⟩ := HP.out 7 (by omega)
            rw [← ht] at h1
            have H4 := Lib.hid h4; have H5 := Lib.hid h5; have H11 := Lib.hid h11; clear h4 h5 h11 ht
            have h6' : floatOfInt .f64 6 = d := h6
            clear h6 h7 h8 h9 h10 HP HY HN
            go_wp2
            go_roundw
            case rel => exact ⟨_, _, (by first | rfl | simp only [World.drewN_drewN]), rfl, .inr (.inr (.inr (.inr (.inr (.inr (.inr (.inr (⟨rfl, H4.out⟩))))))))⟩
            case measure => simp [intOf]
          · have HT := Lib.hid ht; clear ht HP
            have k5' : ∀ w, fa .mul .f64 z t w = r := by rw [HT.out]; exact k5
            clear k5
            go_wp2
            go_ret
            exact .mk' _ (float_congr HA.out.symm) rfl

/-- How far the program's count is from its end. -/
def kM (v : Value) : Nat := match v with
  | .float .f64 k => if k = kW 0 then 8 else if k = kW 1 then 7 else if k = kW 2 then 6 else if k = kW 3 then 5 else if k = kW 4 then 4 else if k = kW 5 then 3 else if k = kW 6 then 2 else if k = kW 7 then 1 else 0
  | _ => 0

set_option maxHeartbeats 1600000 in
theorem impl_sine (y : Nat) (hy : y < 2 ^ 64) (h : small y) (w : World) : Calls Try.prog 58 #[.float .f64 y] w (Ret (.float .f64 (sineW y)) w) := by
  obtain ⟨q1, q2, q3, q4⟩ := small_tests hy h
  obtain ⟨k1, i1⟩ := ptA_in hy h
  have i2 := (pt_in hy h).2
  have ho := pt_or hy h
  have ho1 := fdA_or i2
  have ho2 := fdB_or i2
  obtain ⟨k3, i3⟩ := zW_in (fdB_in i2).2
  obtain ⟨k4, i4⟩ := uW_in i3
  obtain ⟨k5, _⟩ := snA_in i2
  have HP := Lib.hid (p_round i4)
  have HI := Lib.hid (whI_val h)
  have HW := Lib.hid (wh_int (y := y))
  have HY := Lib.hid (sineW_yes (y := y)); have HN := Lib.hid (sineW_no (y := y))
  have HS := Lib.hid (show small y from h)
  go_enter Try.func58, Try.ntmps58
  go_wp2_with fail
  refine (impl_partOfTurn _ hy HS.out _).mono ?_
  rintro e w' ⟨rfl, n, rfl⟩
  clear q1 q2 q3 q4 i1 i2 i3 i4 HI HW
  generalize uW (zW (fdB (pt y))) = u at *
  generalize zW (fdB (pt y)) = z at *
  generalize fdB (pt y) = b at *
  generalize fdA (pt y) = c at *
  generalize snA (pt y) = r at *
  generalize pt y = p at *
  unfold below at ho1 HY HN
  clear hy h HS k1 ho
  rcases ho1 with ⟨c2, m1⟩ | ⟨c2, rfl⟩
  · rcases ho2 with ⟨c3, m2⟩ | ⟨c3, rfl⟩
    · have HA := Lib.hid (HY.out c2)
      go_wp2_with fail
      go_loopw [7, 8] (fun p k wr => ∃ n t, wr = w.drewN n ∧ p = .float .f64 t ∧ ((k = .float .f64 (kW 0) ∧ t = pW u 0) ∨ (k = .float .f64 (kW 1) ∧ t = pW u 1) ∨ (k = .float .f64 (kW 2) ∧ t = pW u 2) ∨ (k = .float .f64 (kW 3) ∧ t = pW u 3) ∨ (k = .float .f64 (kW 4) ∧ t = pW u 4) ∨ (k = .float .f64 (kW 5) ∧ t = pW u 5) ∨ (k = .float .f64 (kW 6) ∧ t = pW u 6) ∨ (k = .float .f64 (kW 7) ∧ t = pW u 7) ∨ (k = .float .f64 (kW 8) ∧ t = pW u 8))) (fun _ k _ => kM k)
      case atStart => exact ⟨_, _, rfl, rfl, .inl ⟨rfl, rfl⟩⟩
      case round =>
        obtain ⟨n, t, rfl, rfl, hk⟩ := hrel
        rcases hk with ⟨rfl, ht⟩ | ⟨rfl, ht⟩ | ⟨rfl, ht⟩ | ⟨rfl, ht⟩ | ⟨rfl, ht⟩ | ⟨rfl, ht⟩ | ⟨rfl, ht⟩ | ⟨rfl, ht⟩ | ⟨rfl, ht⟩
        · obtain ⟨s1, s2, t', d, d2, d3, k', h1, h2, h3, h4, h5, h6, h7, h8, h9, h10, h11⟩ := HP.out 0 (by omega)
          rw [← ht] at h1
          have H4 := Lib.hid h4; have H5 := Lib.hid h5; have H11 := Lib.hid h11; clear h4 h5 h11 ht
          have hm := k_more 0 (by omega)
          obtain ⟨kk, hkk⟩ : ∃ x, x = kW 0 := ⟨_, rfl⟩
          rw [← hkk] at h7 h10 hm ⊢
          have HK := Lib.hid hkk; clear hkk h6 HP HY HN
          go_wp2
          go_roundw
          case rel => exact ⟨_, _, (by first | rfl | simp only [World.drewN_drewN]), rfl, .inr (.inl ⟨by rw [H11.out], H4.out⟩)⟩
          case measure => rw [HK.out, H11.out]; decide
        · obtain ⟨s1, s2, t', d, d2, d3, k', h1, h2, h3, h4, h5, h6, h7, h8, h9, h10, h11⟩ := HP.out 1 (by omega)
          rw [← ht] at h1
          have H4 := Lib.hid h4; have H5 := Lib.hid h5; have H11 := Lib.hid h11; clear h4 h5 h11 ht
          have hm := k_more 1 (by omega)
          obtain ⟨kk, hkk⟩ : ∃ x, x = kW 1 := ⟨_, rfl⟩
          rw [← hkk] at h7 h10 hm ⊢
          have HK := Lib.hid hkk; clear hkk h6 HP HY HN
          go_wp2
          go_roundw
          case rel => exact ⟨_, _, (by first | rfl | simp only [World.drewN_drewN]), rfl, .inr (.inr (.inl ⟨by rw [H11.out], H4.out⟩))⟩
          case measure => rw [HK.out, H11.out]; decide
        · obtain ⟨s1, s2, t', d, d2, d3, k', h1, h2, h3, h4, h5, h6, h7, h8, h9, h10, h11⟩ := HP.out 2 (by omega)
          rw [← ht] at h1
          have H4 := Lib.hid h4; have H5 := Lib.hid h5; have H11 := Lib.hid h11; clear h4 h5 h11 ht
          have hm := k_more 2 (by omega)
          obtain ⟨kk, hkk⟩ : ∃ x, x = kW 2 := ⟨_, rfl⟩
          rw [← hkk] at h7 h10 hm ⊢
          have HK := Lib.hid hkk; clear hkk h6 HP HY HN
          go_wp2
          go_roundw
          case rel => exact ⟨_, _, (by first | rfl | simp only [World.drewN_drewN]), rfl, .inr (.inr (.inr (.inl ⟨by rw [H11.out], H4.out⟩)))⟩
          case measure => rw [HK.out, H11.out]; decide
        · obtain ⟨s1, s2, t', d, d2, d3, k', h1, h2, h3, h4, h5, h6, h7, h8, h9, h10, h11⟩ := HP.out 3 (by omega)
          rw [← ht] at h1
          have H4 := Lib.hid h4; have H5 := Lib.hid h5; have H11 := Lib.hid h11; clear h4 h5 h11 ht
          have hm := k_more 3 (by omega)
          obtain ⟨kk, hkk⟩ : ∃ x, x = kW 3 := ⟨_, rfl⟩
          rw [← hkk] at h7 h10 hm ⊢
          have HK := Lib.hid hkk; clear hkk h6 HP HY HN
          go_wp2
          go_roundw
          case rel => exact ⟨_, _, (by first | rfl | simp only [World.drewN_drewN]), rfl, .inr (.inr (.inr (.inr (.inl ⟨by rw [H11.out], H4.out⟩))))⟩
          case measure => rw [HK.out, H11.out]; decide
        · obtain ⟨s1, s2, t', d, d2, d3, k', h1, h2, h3, h4, h5, h6, h7, h8, h9, h10, h11⟩ := HP.out 4 (by omega)
          rw [← ht] at h1
          have H4 := Lib.hid h4; have H5 := Lib.hid h5; have H11 := Lib.hid h11; clear h4 h5 h11 ht
          have hm := k_more 4 (by omega)
          obtain ⟨kk, hkk⟩ : ∃ x, x = kW 4 := ⟨_, rfl⟩
          rw [← hkk] at h7 h10 hm ⊢
          have HK := Lib.hid hkk; clear hkk h6 HP HY HN
          go_wp2
          go_roundw
          case rel => exact ⟨_, _, (by first | rfl | simp only [World.drewN_drewN]), rfl, .inr (.inr (.inr (.inr (.inr (.inl ⟨by rw [H11.out], H4.out⟩)))))⟩
          case measure => rw [HK.out, H11.out]; decide
        · obtain ⟨s1, s2, t', d, d2, d3, k', h1, h2, h3, h4, h5, h6, h7, h8, h9, h10, h11⟩ := HP.out 5 (by omega)
          rw [← ht] at h1
          have H4 := Lib.hid h4; have H5 := Lib.hid h5; have H11 := Lib.hid h11; clear h4 h5 h11 ht
          have hm := k_more 5 (by omega)
          obtain ⟨kk, hkk⟩ : ∃ x, x = kW 5 := ⟨_, rfl⟩
          rw [← hkk] at h7 h10 hm ⊢
          have HK := Lib.hid hkk; clear hkk h6 HP HY HN
          go_wp2
          go_roundw
          case rel => exact ⟨_, _, (by first | rfl | simp only [World.drewN_drewN]), rfl, .inr (.inr (.inr (.inr (.inr (.inr (.inl ⟨by rw [H11.out], H4.out⟩))))))⟩
          case measure => rw [HK.out, H11.out]; decide
        · obtain ⟨s1, s2, t', d, d2, d3, k', h1, h2, h3, h4, h5, h6, h7, h8, h9, h10, h11⟩ := HP.out 6 (by omega)
          rw [← ht] at h1
          have H4 := Lib.hid h4; have H5 := Lib.hid h5; have H11 := Lib.hid h11; clear h4 h5 h11 ht
          have hm := k_more 6 (by omega)
          obtain ⟨kk, hkk⟩ : ∃ x, x = kW 6 := ⟨_, rfl⟩
          rw [← hkk] at h7 h10 hm ⊢
          have HK := Lib.hid hkk; clear hkk h6 HP HY HN
          go_wp2
          go_roundw
          case rel => exact ⟨_, _, (by first | rfl | simp only [World.drewN_drewN]), rfl, .inr (.inr (.inr (.inr (.inr (.inr (.inr (.inl ⟨by rw [H11.out], H4.out⟩)))))))⟩
          case measure => rw [HK.out, H11.out]; decide
        · obtain ⟨s1, s2, t', d, d2, d3, k', h1, h2, h3, h4, h5, h6, h7, h8, h9, h10, h11⟩ := HP.out 7 (by omega)
          rw [← ht] at h1
          have H4 := Lib.hid h4; have H5 := Lib.hid h5; have H11 := Lib.hid h11; clear h4 h5 h11 ht
          have hm := k_more 7 (by omega)
          obtain ⟨kk, hkk⟩ : ∃ x, x = kW 7 := ⟨_, rfl⟩
          rw [← hkk] at h7 h10 hm ⊢
          have HK := Lib.hid hkk; clear hkk h6 HP HY HN
          go_wp2
          go_roundw
          case rel => exact ⟨_, _, (by first | rfl | simp only [World.drewN_drewN]), rfl, .inr (.inr (.inr (.inr (.inr (.inr (.inr (.inr (⟨by rw [H11.out], H4.out⟩))))))))⟩
          case measure => rw [HK.out, H11.out]; decide
        · have HT := Lib.hid ht; clear ht HP
          have hm := k_end
          generalize kW 8 = kk at *
          have k5' : ∀ w, fa .mul .f64 z t w = r := by rw [HT.out]; exact k5
          clear k5
          go_wp2
          go_ret
          exact .mk' _ (float_congr HA.out.symm) rfl
    · have HA := Lib.hid (HY.out c2)
      go_wp2_with fail
      go_loopw [7, 8] (fun p k wr => ∃ n t, wr = w.drewN n ∧ p = .float .f64 t ∧ ((k = .float .f64 (kW 0) ∧ t = pW u 0) ∨ (k = .float .f64 (kW 1) ∧ t = pW u 1) ∨ (k = .float .f64 (kW 2) ∧ t = pW u 2) ∨ (k = .float .f64 (kW 3) ∧ t = pW u 3) ∨ (k = .float .f64 (kW 4) ∧ t = pW u 4) ∨ (k = .float .f64 (kW 5) ∧ t = pW u 5) ∨ (k = .float .f64 (kW 6) ∧ t = pW u 6) ∨ (k = .float .f64 (kW 7) ∧ t = pW u 7) ∨ (k = .float .f64 (kW 8) ∧ t = pW u 8))) (fun _ k _ => kM k)
      case atStart => exact ⟨_, _, rfl, rfl, .inl ⟨rfl, rfl⟩⟩
      case round =>
        obtain ⟨n, t, rfl, rfl, hk⟩ := hrel
        rcases hk with ⟨rfl, ht⟩ | ⟨rfl, ht⟩ | ⟨rfl, ht⟩ | ⟨rfl, ht⟩ | ⟨rfl, ht⟩ | ⟨rfl, ht⟩ | ⟨rfl, ht⟩ | ⟨rfl, ht⟩ | ⟨rfl, ht⟩
        · obtain ⟨s1, s2, t', d, d2, d3, k', h1, h2, h3, h4, h5, h6, h7, h8, h9, h10, h11⟩ := HP.out 0 (by omega)
          rw [← ht] at h1
          have H4 := Lib.hid h4; have H5 := Lib.hid h5; have H11 := Lib.hid h11; clear h4 h5 h11 ht
          have hm := k_more 0 (by omega)
          obtain ⟨kk, hkk⟩ : ∃ x, x = kW 0 := ⟨_, rfl⟩
          rw [← hkk] at h7 h10 hm ⊢
          have HK := Lib.hid hkk; clear hkk h6 HP HY HN
          go_wp2
          go_roundw
          case rel => exact ⟨_, _, (by first | rfl | simp only [World.drewN_drewN]), rfl, .inr (.inl ⟨by rw [H11.out], H4.out⟩)⟩
          case measure => rw [HK.out, H11.out]; decide
        · obtain ⟨s1, s2, t', d, d2, d3, k', h1, h2, h3, h4, h5, h6, h7, h8, h9, h10, h11⟩ := HP.out 1 (by omega)
          rw [← ht] at h1
          have H4 := Lib.hid h4; have H5 := Lib.hid h5; have H11 := Lib.hid h11; clear h4 h5 h11 ht
          have hm := k_more 1 (by omega)
          obtain ⟨kk, hkk⟩ : ∃ x, x = kW 1 := ⟨_, rfl⟩
          rw [← hkk] at h7 h10 hm ⊢
          have HK := Lib.hid hkk; clear hkk h6 HP HY HN
          go_wp2
          go_roundw
          case rel => exact ⟨_, _, (by first | rfl | simp only [World.drewN_drewN]), rfl, .inr (.inr (.inl ⟨by rw [H11.out], H4.out⟩))⟩
          case measure => rw [HK.out, H11.out]; decide
        · obtain ⟨s1, s2, t', d, d2, d3, k', h1, h2, h3, h4, h5, h6, h7, h8, h9, h10, h11⟩ := HP.out 2 (by omega)
          rw [← ht] at h1
          have H4 := Lib.hid h4; have H5 := Lib.hid h5; have H11 := Lib.hid h11; clear h4 h5 h11 ht
          have hm := k_more 2 (by omega)
          obtain ⟨kk, hkk⟩ : ∃ x, x = kW 2 := ⟨_, rfl⟩
          rw [← hkk] at h7 h10 hm ⊢
          have HK := Lib.hid hkk; clear hkk h6 HP HY HN
          go_wp2
          go_roundw
          case rel => exact ⟨_, _, (by first | rfl | simp only [World.drewN_drewN]), rfl, .inr (.inr (.inr (.inl ⟨by rw [H11.out], H4.out⟩)))⟩
          case measure => rw [HK.out, H11.out]; decide
        · obtain ⟨s1, s2, t', d, d2, d3, k', h1, h2, h3, h4, h5, h6, h7, h8, h9, h10, h11⟩ := HP.out 3 (by omega)
          rw [← ht] at h1
          have H4 := Lib.hid h4; have H5 := Lib.hid h5; have H11 := Lib.hid h11; clear h4 h5 h11 ht
          have hm := k_more 3 (by omega)
          obtain ⟨kk, hkk⟩ : ∃ x, x = kW 3 := ⟨_, rfl⟩
          rw [← hkk] at h7 h10 hm ⊢
          have HK := Lib.hid hkk; clear hkk h6 HP HY HN
          go_wp2
          go_roundw
          case rel => exact ⟨_, _, (by first | rfl | simp only [World.drewN_drewN]), rfl, .inr (.inr (.inr (.inr (.inl ⟨by rw [H11.out], H4.out⟩))))⟩
          case measure => rw [HK.out, H11.out]; decide
        · obtain ⟨s1, s2, t', d, d2, d3, k', h1, h2, h3, h4, h5, h6, h7, h8, h9, h10, h11⟩ := HP.out 4 (by omega)
          rw [← ht] at h1
          have H4 := Lib.hid h4; have H5 := Lib.hid h5; have H11 := Lib.hid h11; clear h4 h5 h11 ht
          have hm := k_more 4 (by omega)
          obtain ⟨kk, hkk⟩ : ∃ x, x = kW 4 := ⟨_, rfl⟩
          rw [← hkk] at h7 h10 hm ⊢
          have HK := Lib.hid hkk; clear hkk h6 HP HY HN
          go_wp2
          go_roundw
          case rel => exact ⟨_, _, (by first | rfl | simp only [World.drewN_drewN]), rfl, .inr (.inr (.inr (.inr (.inr (.inl ⟨by rw [H11.out], H4.out⟩)))))⟩
          case measure => rw [HK.out, H11.out]; decide
        · obtain ⟨s1, s2, t', d, d2, d3, k', h1, h2, h3, h4, h5, h6, h7, h8, h9, h10, h11⟩ := HP.out 5 (by omega)
          rw [← ht] at h1
          have H4 := Lib.hid h4; have H5 := Lib.hid h5; have H11 := Lib.hid h11; clear h4 h5 h11 ht
          have hm := k_more 5 (by omega)
          obtain ⟨kk, hkk⟩ : ∃ x, x = kW 5 := ⟨_, rfl⟩
          rw [← hkk] at h7 h10 hm ⊢
          have HK := Lib.hid hkk; clear hkk h6 HP HY HN
          go_wp2
          go_roundw
          case rel => exact ⟨_, _, (by first | rfl | simp only [World.drewN_drewN]), rfl, .inr (.inr (.inr (.inr (.inr (.inr (.inl ⟨by rw [H11.out], H4.out⟩))))))⟩
          case measure => rw [HK.out, H11.out]; decide
        · obtain ⟨s1, s2, t', d, d2, d3, k', h1, h2, h3, h4, h5, h6, h7, h8, h9, h10, h11⟩ := HP.out 6 (by omega)
          rw [← ht] at h1
          have H4 := Lib.hid h4; have H5 := Lib.hid h5; have H11 := Lib.hid h11; clear h4 h5 h11 ht
          have hm := k_more 6 (by omega)
          obtain ⟨kk, hkk⟩ : ∃ x, x = kW 6 := ⟨_, rfl⟩
          rw [← hkk] at h7 h10 hm ⊢
          have HK := Lib.hid hkk; clear hkk h6 HP HY HN
          go_wp2
          go_roundw
          case rel => exact ⟨_, _, (by first | rfl | simp only [World.drewN_drewN]), rfl, .inr (.inr (.inr (.inr (.inr (.inr (.inr (.inl ⟨by rw [H11.out], H4.out⟩)))))))⟩
          case measure => rw [HK.out, H11.out]; decide
        · obtain ⟨s1, s2, t', d, d2, d3, k', h1, h2, h3, h4, h5, h6, h7, h8, h9, h10, h11⟩ := HP.out 7 (by omega)
          rw [← ht] at h1
          have H4 := Lib.hid h4; have H5 := Lib.hid h5; have H11 := Lib.hid h11; clear h4 h5 h11 ht
          have hm := k_more 7 (by omega)
          obtain ⟨kk, hkk⟩ : ∃ x, x = kW 7 := ⟨_, rfl⟩
          rw [← hkk] at h7 h10 hm ⊢
          have HK := Lib.hid hkk; clear hkk h6 HP HY HN
          go_wp2
          go_roundw
          case rel => exact ⟨_, _, (by first | rfl | simp only [World.drewN_drewN]), rfl, .inr (.inr (.inr (.inr (.inr (.inr (.inr (.inr (⟨by rw [H11.out], H4.out⟩))))))))⟩
          case measure => rw [HK.out, H11.out]; decide
        · have HT := Lib.hid ht; clear ht HP
          have hm := k_end
          generalize kW 8 = kk at *
          have k5' : ∀ w, fa .mul .f64 z t w = r := by rw [HT.out]; exact k5
          clear k5
          go_wp2
          go_ret
          exact .mk' _ (float_congr HA.out.symm) rfl
  · rcases ho2 with ⟨c3, m2⟩ | ⟨c3, rfl⟩
    · have HA := Lib.hid (HN.out c2)
      go_wp2_with fail
      go_loopw [7, 8] (fun p k wr => ∃ n t, wr = w.drewN n ∧ p = .float .f64 t ∧ ((k = .float .f64 (kW 0) ∧ t = pW u 0) ∨ (k = .float .f64 (kW 1) ∧ t = pW u 1) ∨ (k = .float .f64 (kW 2) ∧ t = pW u 2) ∨ (k = .float .f64 (kW 3) ∧ t = pW u 3) ∨ (k = .float .f64 (kW 4) ∧ t = pW u 4) ∨ (k = .float .f64 (kW 5) ∧ t = pW u 5) ∨ (k = .float .f64 (kW 6) ∧ t = pW u 6) ∨ (k = .float .f64 (kW 7) ∧ t = pW u 7) ∨ (k = .float .f64 (kW 8) ∧ t = pW u 8))) (fun _ k _ => kM k)
      case atStart => exact ⟨_, _, rfl, rfl, .inl ⟨rfl, rfl⟩⟩
      case round =>
        obtain ⟨n, t, rfl, rfl, hk⟩ := hrel
        rcases hk with ⟨rfl, ht⟩ | ⟨rfl, ht⟩ | ⟨rfl, ht⟩ | ⟨rfl, ht⟩ | ⟨rfl, ht⟩ | ⟨rfl, ht⟩ | ⟨rfl, ht⟩ | ⟨rfl, ht⟩ | ⟨rfl, ht⟩
        · obtain ⟨s1, s2, t', d, d2, d3, k', h1, h2, h3, h4, h5, h6, h7, h8, h9, h10, h11⟩ := HP.out 0 (by omega)
          rw [← ht] at h1
          have H4 := Lib.hid h4; have H5 := Lib.hid h5; have H11 := Lib.hid h11; clear h4 h5 h11 ht
          have hm := k_more 0 (by omega)
          obtain ⟨kk, hkk⟩ : ∃ x, x = kW 0 := ⟨_, rfl⟩
          rw [← hkk] at h7 h10 hm ⊢
          have HK := Lib.hid hkk; clear hkk h6 HP HY HN
          go_wp2
          go_roundw
          case rel => exact ⟨_, _, (by first | rfl | simp only [World.drewN_drewN]), rfl, .inr (.inl ⟨by rw [H11.out], H4.out⟩)⟩
          case measure => rw [HK.out, H11.out]; decide
        · obtain ⟨s1, s2, t', d, d2, d3, k', h1, h2, h3, h4, h5, h6, h7, h8, h9, h10, h11⟩ := HP.out 1 (by omega)
          rw [← ht] at h1
          have H4 := Lib.hid h4; have H5 := Lib.hid h5; have H11 := Lib.hid h11; clear h4 h5 h11 ht
          have hm := k_more 1 (by omega)
          obtain ⟨kk, hkk⟩ : ∃ x, x = kW 1 := ⟨_, rfl⟩
          rw [← hkk] at h7 h10 hm ⊢
          have HK := Lib.hid hkk; clear hkk h6 HP HY HN
          go_wp2
          go_roundw
          case rel => exact ⟨_, _, (by first | rfl | simp only [World.drewN_drewN]), rfl, .inr (.inr (.inl ⟨by rw [H11.out], H4.out⟩))⟩
          case measure => rw [HK.out, H11.out]; decide
        · obtain ⟨s1, s2, t', d, d2, d3, k', h1, h2, h3, h4, h5, h6, h7, h8, h9, h10, h11⟩ := HP.out 2 (by omega)
          rw [← ht] at h1
          have H4 := Lib.hid h4; have H5 := Lib.hid h5; have H11 := Lib.hid h11; clear h4 h5 h11 ht
          have hm := k_more 2 (by omega)
          obtain ⟨kk, hkk⟩ : ∃ x, x = kW 2 := ⟨_, rfl⟩
          rw [← hkk] at h7 h10 hm ⊢
          have HK := Lib.hid hkk; clear hkk h6 HP HY HN
          go_wp2
          go_roundw
          case rel => exact ⟨_, _, (by first | rfl | simp only [World.drewN_drewN]), rfl, .inr (.inr (.inr (.inl ⟨by rw [H11.out], H4.out⟩)))⟩
          case measure => rw [HK.out, H11.out]; decide
        · obtain ⟨s1, s2, t', d, d2, d3, k', h1, h2, h3, h4, h5, h6, h7, h8, h9, h10, h11⟩ := HP.out 3 (by omega)
          rw [← ht] at h1
          have H4 := Lib.hid h4; have H5 := Lib.hid h5; have H11 := Lib.hid h11; clear h4 h5 h11 ht
          have hm := k_more 3 (by omega)
          obtain ⟨kk, hkk⟩ : ∃ x, x = kW 3 := ⟨_, rfl⟩
          rw [← hkk] at h7 h10 hm ⊢
          have HK := Lib.hid hkk; clear hkk h6 HP HY HN
          go_wp2
          go_roundw
          case rel => exact ⟨_, _, (by first | rfl | simp only [World.drewN_drewN]), rfl, .inr (.inr (.inr (.inr (.inl ⟨by rw [H11.out], H4.out⟩))))⟩
          case measure => rw [HK.out, H11.out]; decide
        · obtain ⟨s1, s2, t', d, d2, d3, k', h1, h2, h3, h4, h5, h6, h7, h8, h9, h10, h11⟩ := HP.out 4 (by omega)
          rw [← ht] at h1
          have H4 := Lib.hid h4; have H5 := Lib.hid h5; have H11 := Lib.hid h11; clear h4 h5 h11 ht
          have hm := k_more 4 (by omega)
          obtain ⟨kk, hkk⟩ : ∃ x, x = kW 4 := ⟨_, rfl⟩
          rw [← hkk] at h7 h10 hm ⊢
          have HK := Lib.hid hkk; clear hkk h6 HP HY HN
          go_wp2
          go_roundw
          case rel => exact ⟨_, _, (by first | rfl | simp only [World.drewN_drewN]), rfl, .inr (.inr (.inr (.inr (.inr (.inl ⟨by rw [H11.out], H4.out⟩)))))⟩
          case measure => rw [HK.out, H11.out]; decide
        · obtain ⟨s1, s2, t', d, d2, d3, k', h1, h2, h3, h4, h5, h6, h7, h8, h9, h10, h11⟩ := HP.out 5 (by omega)
          rw [← ht] at h1
          have H4 := Lib.hid h4; have H5 := Lib.hid h5; have H11 := Lib.hid h11; clear h4 h5 h11 ht
          have hm := k_more 5 (by omega)
          obtain ⟨kk, hkk⟩ : ∃ x, x = kW 5 := ⟨_, rfl⟩
          rw [← hkk] at h7 h10 hm ⊢
          have HK := Lib.hid hkk; clear hkk h6 HP HY HN
          go_wp2
          go_roundw
          case rel => exact ⟨_, _, (by first | rfl | simp only [World.drewN_drewN]), rfl, .inr (.inr (.inr (.inr (.inr (.inr (.inl ⟨by rw [H11.out], H4.out⟩))))))⟩
          case measure => rw [HK.out, H11.out]; decide
        · obtain ⟨s1, s2, t', d, d2, d3, k', h1, h2, h3, h4, h5, h6, h7, h8, h9, h10, h11⟩ := HP.out 6 (by omega)
          rw [← ht] at h1
          have H4 := Lib.hid h4; have H5 := Lib.hid h5; have H11 := Lib.hid h11; clear h4 h5 h11 ht
          have hm := k_more 6 (by omega)
          obtain ⟨kk, hkk⟩ : ∃ x, x = kW 6 := ⟨_, rfl⟩
          rw [← hkk] at h7 h10 hm ⊢
          have HK := Lib.hid hkk; clear hkk h6 HP HY HN
          go_wp2
          go_roundw
          case rel => exact ⟨_, _, (by first | rfl | simp only [World.drewN_drewN]), rfl, .inr (.inr (.inr (.inr (.inr (.inr (.inr (.inl ⟨by rw [H11.out], H4.out⟩)))))))⟩
          case measure => rw [HK.out, H11.out]; decide
        · obtain ⟨s1, s2, t', d, d2, d3, k', h1, h2, h3, h4, h5, h6, h7, h8, h9, h10, h11⟩ := HP.out 7 (by omega)
          rw [← ht] at h1
          have H4 := Lib.hid h4; have H5 := Lib.hid h5; have H11 := Lib.hid h11; clear h4 h5 h11 ht
          have hm := k_more 7 (by omega)
          obtain ⟨kk, hkk⟩ : ∃ x, x = kW 7 := ⟨_, rfl⟩
          rw [← hkk] at h7 h10 hm ⊢
          have HK := Lib.hid hkk; clear hkk h6 HP HY HN
          go_wp2
          go_roundw
          case rel => exact ⟨_, _, (by first | rfl | simp only [World.drewN_drewN]), rfl, .inr (.inr (.inr (.inr (.inr (.inr (.inr (.inr (⟨by rw [H11.out], H4.out⟩))))))))⟩
          case measure => rw [HK.out, H11.out]; decide
        · have HT := Lib.hid ht; clear ht HP
          have hm := k_end
          generalize kW 8 = kk at *
          have k5' : ∀ w, fa .mul .f64 z t w = r := by rw [HT.out]; exact k5
          clear k5
          go_wp2
          go_ret
          exact .mk' _ (float_congr HA.out.symm) rfl
    · have HA := Lib.hid (HN.out c2)
      go_wp2_with fail
      go_loopw [7, 8] (fun p k wr => ∃ n t, wr = w.drewN n ∧ p = .float .f64 t ∧ ((k = .float .f64 (kW 0) ∧ t = pW u 0) ∨ (k = .float .f64 (kW 1) ∧ t = pW u 1) ∨ (k = .float .f64 (kW 2) ∧ t = pW u 2) ∨ (k = .float .f64 (kW 3) ∧ t = pW u 3) ∨ (k = .float .f64 (kW 4) ∧ t = pW u 4) ∨ (k = .float .f64 (kW 5) ∧ t = pW u 5) ∨ (k = .float .f64 (kW 6) ∧ t = pW u 6) ∨ (k = .float .f64 (kW 7) ∧ t = pW u 7) ∨ (k = .float .f64 (kW 8) ∧ t = pW u 8))) (fun _ k _ => kM k)
      case atStart => exact ⟨_, _, rfl, rfl, .inl ⟨rfl, rfl⟩⟩
      case round =>
        obtain ⟨n, t, rfl, rfl, hk⟩ := hrel
        rcases hk with ⟨rfl, ht⟩ | ⟨rfl, ht⟩ | ⟨rfl, ht⟩ | ⟨rfl, ht⟩ | ⟨rfl, ht⟩ | ⟨rfl, ht⟩ | ⟨rfl, ht⟩ | ⟨rfl, ht⟩ | ⟨rfl, ht⟩
        · obtain ⟨s1, s2, t', d, d2, d3, k', h1, h2, h3, h4, h5, h6, h7, h8, h9, h10, h11⟩ := HP.out 0 (by omega)
          rw [← ht] at h1
          have H4 := Lib.hid h4; have H5 := Lib.hid h5; have H11 := Lib.hid h11; clear h4 h5 h11 ht
          have hm := k_more 0 (by omega)
          obtain ⟨kk, hkk⟩ : ∃ x, x = kW 0 := ⟨_, rfl⟩
          rw [← hkk] at h7 h10 hm ⊢
          have HK := Lib.hid hkk; clear hkk h6 HP HY HN
          go_wp2
          go_roundw
          case rel => exact ⟨_, _, (by first | rfl | simp only [World.drewN_drewN]), rfl, .inr (.inl ⟨by rw [H11.out], H4.out⟩)⟩
          case measure => rw [HK.out, H11.out]; decide
        · obtain ⟨s1, s2, t', d, d2, d3, k', h1, h2, h3, h4, h5, h6, h7, h8, h9, h10, h11⟩ := HP.out 1 (by omega)
          rw [← ht] at h1
          have H4 := Lib.hid h4; have H5 := Lib.hid h5; have H11 := Lib.hid h11; clear h4 h5 h11 ht
          have hm := k_more 1 (by omega)
          obtain ⟨kk, hkk⟩ : ∃ x, x = kW 1 := ⟨_, rfl⟩
          rw [← hkk] at h7 h10 hm ⊢
          have HK := Lib.hid hkk; clear hkk h6 HP HY HN
          go_wp2
          go_roundw
          case rel => exact ⟨_, _, (by first | rfl | simp only [World.drewN_drewN]), rfl, .inr (.inr (.inl ⟨by rw [H11.out], H4.out⟩))⟩
          case measure => rw [HK.out, H11.out]; decide
        · obtain ⟨s1, s2, t', d, d2, d3, k', h1, h2, h3, h4, h5, h6, h7, h8, h9, h10, h11⟩ := HP.out 2 (by omega)
          rw [← ht] at h1
          have H4 := Lib.hid h4; have H5 := Lib.hid h5; have H11 := Lib.hid h11; clear h4 h5 h11 ht
          have hm := k_more 2 (by omega)
          obtain ⟨kk, hkk⟩ : ∃ x, x = kW 2 := ⟨_, rfl⟩
          rw [← hkk] at h7 h10 hm ⊢
          have HK := Lib.hid hkk; clear hkk h6 HP HY HN
          go_wp2
          go_roundw
          case rel => exact ⟨_, _, (by first | rfl | simp only [World.drewN_drewN]), rfl, .inr (.inr (.inr (.inl ⟨by rw [H11.out], H4.out⟩)))⟩
          case measure => rw [HK.out, H11.out]; decide
        · obtain ⟨s1, s2, t', d, d2, d3, k', h1, h2, h3, h4, h5, h6, h7, h8, h9, h10, h11⟩ := HP.out 3 (by omega)
          rw [← ht] at h1
          have H4 := Lib.hid h4; have H5 := Lib.hid h5; have H11 := Lib.hid h11; clear h4 h5 h11 ht
          have hm := k_more 3 (by omega)
          obtain ⟨kk, hkk⟩ : ∃ x, x = kW 3 := ⟨_, rfl⟩
          rw [← hkk] at h7 h10 hm ⊢
          have HK := Lib.hid hkk; clear hkk h6 HP HY HN
          go_wp2
          go_roundw
          case rel => exact ⟨_, _, (by first | rfl | simp only [World.drewN_drewN]), rfl, .inr (.inr (.inr (.inr (.inl ⟨by rw [H11.out], H4.out⟩))))⟩
          case measure => rw [HK.out, H11.out]; decide
        · obtain ⟨s1, s2, t', d, d2, d3, k', h1, h2, h3, h4, h5, h6, h7, h8, h9, h10, h11⟩ := HP.out 4 (by omega)
          rw [← ht] at h1
          have H4 := Lib.hid h4; have H5 := Lib.hid h5; have H11 := Lib.hid h11; clear h4 h5 h11 ht
          have hm := k_more 4 (by omega)
          obtain ⟨kk, hkk⟩ : ∃ x, x = kW 4 := ⟨_, rfl⟩
          rw [← hkk] at h7 h10 hm ⊢
          have HK := Lib.hid hkk; clear hkk h6 HP HY HN
          go_wp2
          go_roundw
          case rel => exact ⟨_, _, (by first | rfl | simp only [World.drewN_drewN]), rfl, .inr (.inr (.inr (.inr (.inr (.inl ⟨by rw [H11.out], H4.out⟩)))))⟩
          case measure => rw [HK.out, H11.out]; decide
        · obtain ⟨s1, s2, t', d, d2, d3, k', h1, h2, h3, h4, h5, h6, h7, h8, h9, h10, h11⟩ := HP.out 5 (by omega)
          rw [← ht] at h1
          have H4 := Lib.hid h4; have H5 := Lib.hid h5; have H11 := Lib.hid h11; clear h4 h5 h11 ht
          have hm := k_more 5 (by omega)
          obtain ⟨kk, hkk⟩ : ∃ x, x = kW 5 := ⟨_, rfl⟩
          rw [← hkk] at h7 h10 hm ⊢
          have HK := Lib.hid hkk; clear hkk h6 HP HY HN
          go_wp2
          go_roundw
          case rel => exact ⟨_, _, (by first | rfl | simp only [World.drewN_drewN]), rfl, .inr (.inr (.inr (.inr (.inr (.inr (.inl ⟨by rw [H11.out], H4.out⟩))))))⟩
          case measure => rw [HK.out, H11.out]; decide
        · obtain ⟨s1, s2, t', d, d2, d3, k', h1, h2, h3, h4, h5, h6, h7, h8, h9, h10, h11⟩ := HP.out 6 (by omega)
          rw [← ht] at h1
          have H4 := Lib.hid h4; have H5 := Lib.hid h5; have H11 := Lib.hid h11; clear h4 h5 h11 ht
          have hm := k_more 6 (by omega)
          obtain ⟨kk, hkk⟩ : ∃ x, x = kW 6 := ⟨_, rfl⟩
          rw [← hkk] at h7 h10 hm ⊢
          have HK := Lib.hid hkk; clear hkk h6 HP HY HN
          go_wp2
          go_roundw
          case rel => exact ⟨_, _, (by first | rfl | simp only [World.drewN_drewN]), rfl, .inr (.inr (.inr (.inr (.inr (.inr (.inr (.inl ⟨by rw [H11.out], H4.out⟩)))))))⟩
          case measure => rw [HK.out, H11.out]; decide
        · obtain ⟨s1, s2, t', d, d2, d3, k', h1, h2, h3, h4, h5, h6, h7, h8, h9, h10, h11⟩ := HP.out 7 (by omega)
          rw [← ht] at h1
          have H4 := Lib.hid h4; have H5 := Lib.hid h5; have H11 := Lib.hid h11; clear h4 h5 h11 ht
          have hm := k_more 7 (by omega)
          obtain ⟨kk, hkk⟩ : ∃ x, x = kW 7 := ⟨_, rfl⟩
          rw [← hkk] at h7 h10 hm ⊢
          have HK := Lib.hid hkk; clear hkk h6 HP HY HN
          go_wp2
          go_roundw
          case rel => exact ⟨_, _, (by first | rfl | simp only [World.drewN_drewN]), rfl, .inr (.inr (.inr (.inr (.inr (.inr (.inr (.inr (⟨by rw [H11.out], H4.out⟩))))))))⟩
          case measure => rw [HK.out, H11.out]; decide
        · have HT := Lib.hid ht; clear ht HP
          have hm := k_end
          generalize kW 8 = kk at *
          have k5' : ∀ w, fa .mul .f64 z t w = r := by rw [HT.out]; exact k5
          clear k5
          go_wp2
          go_ret
          exact .mk' _ (float_congr HA.out.symm) rfl

end Go.Proofs.Ytjpbimfnppmbcaa
