/- The law of angles. -/
import Derived.Test.YtjpbimfnppmbcaaWr4
namespace Go.Proofs.Ytjpbimfnppmbcaa
open Fl Go.RowKit

/-- The call returns a float of this class; of what was there nothing has turned. -/
def RetKB (k : FloatKind) (c : Option Nat) (w : World) (e : Ending) (w' : World) : Prop := ∃ r, e = .returned (.float k r) ∧ cls k r = c ∧ Below w.heap.size w w'
theorem RetKB.mk' {k : FloatKind} {r : Nat} {c : Option Nat} {w w' : World} (h : cls k r = c) (hw : Below w.heap.size w w') : RetKB k c w (.returned (.float k r)) w' := ⟨r, rfl, h, hw⟩

theorem order0_wide {x : Nat} (h : finb FloatKind.f32.format x = true) : FloatKind.f64.format.order (tr .f32 .f64 x) 0 = FloatKind.f32.format.order x 0 := by
  have hf := finb_iff.1 h
  obtain ⟨a, b, _⟩ := widen hf
  have e1 : FloatKind.f64.format.order (tr .f32 .f64 x) 0 = some (compare (N Ieee.double (tr .f32 .f64 x)) (N Ieee.double 0)) := order_N a zeroF
  have e2 : FloatKind.f32.format.order x 0 = some (compare (N Ieee.single x) (N Ieee.single 0)) := order_fin (f := Ieee.single) (by decide) hf (zero_fin .f32)
  have z : N Ieee.single 0 = 0 := N_zero .f32
  have b' : N Ieee.double (tr .f32 .f64 x) = N Ieee.single x * 2 ^ gapP := b
  rw [e1, e2, zeroN, z, b', ← compare_mul (N Ieee.single x) 0 gapP, Int.zero_mul]
theorem N_tr {x : Nat} (h : finb FloatKind.f32.format x = true) : N Ieee.double (tr .f32 .f64 x) = 0 ↔ N Ieee.single x = 0 := by
  have b : N Ieee.double (tr .f32 .f64 x) = N Ieee.single x * 2 ^ gapP := (widen (finb_iff.1 h)).2.1
  have p : (0 : Int) < 2 ^ gapP := Int.pow_pos (by decide)
  rw [b, Int.mul_eq_zero]
  exact ⟨fun q => q.resolve_right (by omega), fun q => .inl q⟩

noncomputable def angC (y x : Nat) : Option Nat := if finb FloatKind.f32.format y && finb FloatKind.f32.format x then
  (open Classical in if N Ieee.double (tr .f32 .f64 x) = 0 ∧ N Ieee.double (tr .f32 .f64 y) = 0 then some 0 else some (tr .f64 .f32 (angW (tr .f32 .f64 y) (tr .f32 .f64 x)))) else none
theorem angC_nan {y x : Nat} (h : (finb FloatKind.f32.format y && finb FloatKind.f32.format x) = false) : angC y x = none := by unfold angC; rw [h]; rfl
theorem angC_zero {y x : Nat} (hy : finb FloatKind.f32.format y = true) (hx : finb FloatKind.f32.format x = true) (h : N Ieee.double (tr .f32 .f64 x) = 0 ∧ N Ieee.double (tr .f32 .f64 y) = 0) : angC y x = some 0 := by
  unfold angC; rw [hy, hx, Bool.and_self, if_pos rfl, if_pos h]
theorem angC_some {y x : Nat} (hy : finb FloatKind.f32.format y = true) (hx : finb FloatKind.f32.format x = true) (h : ¬ (N Ieee.double (tr .f32 .f64 x) = 0 ∧ N Ieee.double (tr .f32 .f64 y) = 0)) : angC y x = some (tr .f64 .f32 (angW (tr .f32 .f64 y) (tr .f32 .f64 x))) := by
  unfold angC; rw [hy, hx, Bool.and_self, if_pos rfl, if_neg h]
theorem angW_in {y x : Nat} (hy : fin Ieee.double y) (hx : fin Ieee.double x) (h0 : ¬ (N Ieee.double x = 0 ∧ N Ieee.double y = 0)) : In (some (angW y x)) (-44) 44 :=
  an3_in _ (an2_in _ (an1_in _ (anC_in (tW_in (angT_or hy hx h0).1 3)).2).2).2

theorem spec_AngleWide_nan (y x : Nat) (h : (finb FloatKind.f64.format y && finb FloatKind.f64.format x) = false) (w : World) : Calls Try.prog 85 #[.float .f64 y, .float .f64 x] w (fun e w' => ∃ b, e = .returned (.float .f64 b) ∧ nan FloatKind.f64.format b = true ∧ ∃ n, w' = w.drewN n) := by
  cases hy : finb FloatKind.f64.format y
  · have k : ∀ w, (FloatKind.f64.format.order (fa .sub .f64 y y w) 0 != some .eq) = true := fun w => by rw [fin_tests, hy]; rfl
    clear h hy
    go_enter Try.func85, Try.ntmps85
    go_wp2_with fail
    refine (math_NaN _).mono ?_
    rintro e w' ⟨b, rfl, hb, n, rfl⟩
    have HB := Lib.hid hb; clear hb
    go_wp2
    go_ret
    exact ⟨_, rfl, HB.out, _, rfl⟩
  · have hx : finb FloatKind.f64.format x = false := by rw [hy] at h; exact h
    have k : ∀ w, (FloatKind.f64.format.order (fa .sub .f64 y y w) 0 != some .eq) = false := fun w => by rw [fin_tests, hy]; rfl
    have k2 : ∀ w, (FloatKind.f64.format.order (fa .sub .f64 x x w) 0 != some .eq) = true := fun w => by rw [fin_tests, hx]; rfl
    clear h hy hx
    go_enter Try.func85, Try.ntmps85
    go_wp2_with fail
    refine (math_NaN _).mono ?_
    rintro e w' ⟨b, rfl, hb, n, rfl⟩
    have HB := Lib.hid hb; clear hb
    go_wp2
    go_ret
    exact ⟨_, rfl, HB.out, _, rfl⟩
theorem spec_AngleWide_zero (y x : Nat) (hy : fin Ieee.double y) (hx : fin Ieee.double x) (h0 : N Ieee.double x = 0 ∧ N Ieee.double y = 0) (w : World) : Calls Try.prog 85 #[.float .f64 y, .float .f64 x] w (Ret (.float .f64 0) w) := by
  have q1 : ∀ w, (FloatKind.f64.format.order (fa .sub .f64 y y w) 0 != some .eq) = false := fun w => by rw [fin_tests, show finb FloatKind.f64.format y = true from finb_iff.2 hy]; rfl
  have q2 : ∀ w, (FloatKind.f64.format.order (fa .sub .f64 x x w) 0 != some .eq) = false := fun w => by rw [fin_tests, show finb FloatKind.f64.format x = true from finb_iff.2 hx]; rfl
  have c1 : (FloatKind.f64.format.order x 0 == some .eq) = true := by rw [eq_N hx zeroF, zeroN]; exact decide_eq_true h0.1
  have c2 : (FloatKind.f64.format.order y 0 == some .eq) = true := by rw [eq_N hy zeroF, zeroN]; exact decide_eq_true h0.2
  clear hy hx h0
  go_enter Try.func85, Try.ntmps85
  go_wp2
  go_ret
  exact .mk' _ rfl rfl

theorem spec_l01Angle (y x : Nat) (w : World) : Calls Try.prog 67 #[.float .f32 y, .float .f32 x] w (RetK .f32 (angC y x) w) := by
  cases hf : (finb FloatKind.f32.format y && finb FloatKind.f32.format x)
  · have HF := Lib.hid hf; clear hf
    rw [angC_nan HF.out]
    go_enter Try.func67, Try.ntmps67
    go_wp2_with fail
    refine (spec_AngleWide_nan _ _ (by rw [finb_wide, finb_wide]; exact HF.out) _).mono ?_
    rintro e w' ⟨b, rfl, hb, n, rfl⟩
    have HB := Lib.hid hb; clear hb
    go_wp2_with fail
    refine (spec_l01Narrow _ _).mono ?_
    rintro e w' ⟨w3, rfl, n', rfl⟩
    go_wp2
    go_ret
    exact .mk' _ (narrow_nan HB.out _) rfl
  · rw [Bool.and_eq_true] at hf
    obtain ⟨hy, hx⟩ := hf
    have k1 := cv_tr hy
    have k2 := cv_tr hx
    by_cases h0 : N Ieee.double (tr .f32 .f64 x) = 0 ∧ N Ieee.double (tr .f32 .f64 y) = 0
    · rw [angC_zero hy hx h0]
      have H0 := Lib.hid h0; have HY := Lib.hid (tr_fin hy); have HX := Lib.hid (tr_fin hx)
      clear h0 hy hx
      go_enter Try.func67, Try.ntmps67
      go_wp2_with fail
      refine (spec_AngleWide_zero _ _ HY.out HX.out H0.out _).mono ?_
      rintro e w' ⟨rfl, n, rfl⟩
      go_wp2_with fail
      refine (spec_l01Narrow _ _).mono ?_
      rintro e w' ⟨w3, rfl, n', rfl⟩
      go_wp2
      go_ret
      exact .mk' _ (narrow_0 _) rfl
    · rw [angC_some hy hx h0]
      have H0 := Lib.hid h0; have HY := Lib.hid (tr_fin hy); have HX := Lib.hid (tr_fin hx)
      have HLY := Lib.hid (tr_lt hy); have HLX := Lib.hid (tr_lt hx)
      clear h0 hy hx
      go_enter Try.func67, Try.ntmps67
      go_wp2_with fail
      refine (spec_l01AngleWide _ _ HLY.out HLX.out HY.out HX.out H0.out _).mono ?_
      rintro e w' ⟨rfl, n, rfl⟩
      go_wp2_with fail
      refine (spec_l01Narrow _ _).mono ?_
      rintro e w' ⟨w3, rfl, n', rfl⟩
      go_wp2
      go_ret
      exact .mk' _ (narrow_in (angW_in HY.out HX.out H0.out) (by omega) (by omega) _) rfl

theorem spec_AngleTurns (y x : Nat) (w : World) : Calls Try.prog 31 #[.float .f32 y, .float .f32 x] w (RetK .f32 (angC y x) w) := by
  go_enter Try.func31, Try.ntmps31
  go_wp2_with fail
  refine (spec_l01Angle _ _ _).mono ?_
  rintro e w' ⟨r, rfl, hr, n, rfl⟩
  have HR := Lib.hid hr; clear hr
  go_wp2
  go_ret
  exact .mk' _ HR.out rfl

theorem two_FS (x u : Nat) (w : World) : FS (w.alloc (.cells #[.float .f32 x, .float .f32 u] 22)) (.slice (some ⟨w.heap.size, 0, none⟩) 2 2) [x, u] := by
  refine ⟨_, _, _, rfl, rfl, by decide, .inr ⟨_, _, rfl, by simp, fun i hi => ?_⟩⟩
  match i, hi with
  | 0, _ => simp [go_sem]
  | 1, _ => simp [go_sem]
theorem two_any (x y : Nat) : [x, y].any notFin = !(finb FloatKind.f32.format y && finb FloatKind.f32.format x) := by
  unfold notFin
  cases hx : finb FloatKind.f32.format x <;> cases hy : finb FloatKind.f32.format y <;> simp [hx, hy]
/-- How far the program's count is from its end. -/
def kAM (v : Value) : Nat := match v with
  | .float .f64 k => if k = kA 0 then 8 else if k = kA 1 then 7 else if k = kA 2 then 6 else if k = kA 3 then 5 else if k = kA 4 then 4 else if k = kA 5 then 3 else if k = kA 6 then 2 else if k = kA 7 then 1 else 0
  | _ => 0
theorem zero32 {x : Nat} {b : Bool} (h : finb FloatKind.f32.format x = true) (hc : (FloatKind.f64.format.order (tr .f32 .f64 x) 0 == some .eq) = b) : (FloatKind.f32.format.order x 0 == some .eq) = b := by rw [← order0_wide h]; exact hc

set_option maxHeartbeats 1600000 in
theorem impl_AngleTurns (y x : Nat) (w : World) : Calls Try.prog 32 #[.float .f32 y, .float .f32 x] w (RetKB .f32 (angC y x) w) := by
  cases hf : (finb FloatKind.f32.format y && finb FloatKind.f32.format x)
  · have HF := Lib.hid (show [x, y].any notFin = true by rw [two_any, hf]; rfl)
    rw [angC_nan hf]
    clear hf
    go_enter Try.func32, Try.ntmps32
    go_wp2_with fail
    refine (impl_areFinite _ _ [x, y] (two_FS _ _ _)).mono ?_
    rintro e w1 ⟨rfl, n1, hw1⟩
    rw [HF.out]
    have HB1 : Hid (Below w.heap.size w w1) := Lib.hid (by rw [hw1]; exact below_dn ((Below.refl _ _).alloc (Nat.le_refl _) _) _)
    clear hw1
    go_wp2_with fail
    refine (math_NaN _).mono ?_
    rintro e w' ⟨b, rfl, hb, n, rfl⟩
    have HB := Lib.hid hb; clear hb
    go_wp2
    go_ret
    exact .mk' (narrow_nan HB.out _) (by first | exact below_dn HB1.out _ | (simp only [World.drewN_drewN]; exact below_dn HB1.out _))
  · have HF := Lib.hid (show [x, y].any notFin = false by rw [two_any, hf]; rfl)
    rw [Bool.and_eq_true] at hf
    obtain ⟨hy, hx⟩ := hf
    have k1 := cv_tr hy
    have k2 := cv_tr hx
    by_cases h0 : N Ieee.double (tr .f32 .f64 x) = 0 ∧ N Ieee.double (tr .f32 .f64 y) = 0
    · rw [angC_zero hy hx h0]
      have c1 : (FloatKind.f32.format.order x 0 == some .eq) = true := zero32 hx (by rw [eq_N (tr_fin hx) zeroF, zeroN]; exact decide_eq_true h0.1)
      have c2 : (FloatKind.f32.format.order y 0 == some .eq) = true := zero32 hy (by rw [eq_N (tr_fin hy) zeroF, zeroN]; exact decide_eq_true h0.2)
      clear h0 hy hx
      go_enter Try.func32, Try.ntmps32
      go_wp2_with fail
      refine (impl_areFinite _ _ [x, y] (two_FS _ _ _)).mono ?_
      rintro e w1 ⟨rfl, n1, hw1⟩
      rw [HF.out]
      have HB1 : Hid (Below w.heap.size w w1) := Lib.hid (by rw [hw1]; exact below_dn ((Below.refl _ _).alloc (Nat.le_refl _) _) _)
      clear hw1
      go_wp2
      go_ret
      exact .mk' (cls_fin (k := .f32) (zero_fin .f32)) HB1.out
    · rw [angC_some hy hx h0]
      obtain ⟨i1, hor⟩ := angT_or (tr_fin hy) (tr_fin hx) h0
      have hz := zero_tests (tr_fin hy) (tr_fin hx) h0
      have HW : Hid (angW (tr .f32 .f64 y) (tr .f32 .f64 x) = an3 (FloatKind.f64.format.order (tr .f32 .f64 y) 0 == some .lt) (an2 (FloatKind.f64.format.order (tr .f32 .f64 x) 0 == some .lt) (an1 (angO (tr .f32 .f64 y) (tr .f32 .f64 x)) (anC (tW (angT (tr .f32 .f64 y) (tr .f32 .f64 x)) 3))))) := Lib.hid rfl
      have HY := Lib.hid hy; have HX := Lib.hid hx
      have HLY := Lib.hid (tr_lt hy); have HLX := Lib.hid (tr_lt hx)
      clear hy hx h0
      generalize angT (tr .f32 .f64 y) (tr .f32 .f64 x) = t0 at *
      have I1 := Lib.hid i1; clear i1
      rcases hor with ⟨c1, r1⟩ | ⟨c1, r1⟩
      all_goals rcases hz with c2 | ⟨c2, c3⟩
      · replace c2 := zero32 HX.out c2
        go_enter Try.func32, Try.ntmps32
        go_wp2_with fail
        refine (impl_areFinite _ _ [x, y] (two_FS _ _ _)).mono ?_
        rintro e w1 ⟨rfl, n1, hw1⟩
        rw [HF.out]
        have HB1 : Hid (Below w.heap.size w w1) := Lib.hid (by rw [hw1]; exact below_dn ((Below.refl _ _).alloc (Nat.le_refl _) _) _)
        clear hw1
        go_wp2_with fail
        refine (math_Abs _ HLY.out _).mono ?_
        rintro e w' ⟨rfl, n, rfl⟩
        go_wp2_with fail
        refine (math_Abs _ HLX.out _).mono ?_
        rintro e w' ⟨rfl, n2, rfl⟩
        go_wp2_with fail
        go_loopw [7, 42] (fun t k wr => ∃ n t', wr = w1.drewN n ∧ t = .float .f64 t' ∧ ((k = .int .i64 0 ∧ t' = tW t0 0) ∨ (k = .int .i64 1 ∧ t' = tW t0 1) ∨ (k = .int .i64 2 ∧ t' = tW t0 2) ∨ (k = .int .i64 3 ∧ t' = tW t0 3))) (fun _ k _ => 3 - (intOf k).toNat)
        case atStart => exact ⟨_, _, (by first | rfl | simp only [World.drewN_drewN]), rfl, .inl ⟨rfl, rfl⟩⟩
        case round =>
          obtain ⟨n, t, rfl, rfl, hk⟩ := hrel
          rcases hk with ⟨rfl, ht⟩ | ⟨rfl, ht⟩ | ⟨rfl, ht⟩ | ⟨rfl, ht⟩
          · obtain ⟨a1, b1, s1, d1, e1, h1, h2, h3, h4, h5, h6⟩ := t_round (tW_in I1.out 0)
            rw [← ht] at h1 h5
            have H6 := Lib.hid (show e1 = tW t0 1 from h6); clear h6 ht
            go_wp2_with fail
            refine (math_Sqrt _ _).mono ?_
            rintro e w' ⟨rfl, rfl⟩
            go_wp2
            go_roundw
            case rel => exact ⟨_, _, (by first | rfl | simp only [World.drewN_drewN]), rfl, (.inr (.inl ⟨rfl, H6.out⟩))⟩
            case measure => simp [intOf]
          · obtain ⟨a1, b1, s1, d1, e1, h1, h2, h3, h4, h5, h6⟩ := t_round (tW_in I1.out 1)
            rw [← ht] at h1 h5
            have H6 := Lib.hid (show e1 = tW t0 2 from h6); clear h6 ht
            go_wp2_with fail
            refine (math_Sqrt _ _).mono ?_
            rintro e w' ⟨rfl, rfl⟩
            go_wp2
            go_roundw
            case rel => exact ⟨_, _, (by first | rfl | simp only [World.drewN_drewN]), rfl, (.inr (.inr (.inl ⟨rfl, H6.out⟩)))⟩
            case measure => simp [intOf]
          · obtain ⟨a1, b1, s1, d1, e1, h1, h2, h3, h4, h5, h6⟩ := t_round (tW_in I1.out 2)
            rw [← ht] at h1 h5
            have H6 := Lib.hid (show e1 = tW t0 3 from h6); clear h6 ht
            go_wp2_with fail
            refine (math_Sqrt _ _).mono ?_
            rintro e w' ⟨rfl, rfl⟩
            go_wp2
            go_roundw
            case rel => exact ⟨_, _, (by first | rfl | simp only [World.drewN_drewN]), rfl, (.inr (.inr (.inr (⟨rfl, H6.out⟩))))⟩
            case measure => simp [intOf]
          · have IT := Lib.hid (show In (some t) 0 4 by rw [ht]; exact tW_in I1.out 3)
            obtain ⟨ku, _⟩ := tt_in IT.out
            have IU := Lib.hid (tt_in IT.out).2
            obtain ⟨kA1, _⟩ := anA_in IT.out
            obtain ⟨kB1, _⟩ := anB_in IT.out
            obtain ⟨kC1, iC⟩ := anC_in IT.out
            have IC := Lib.hid iC; clear iC
            have HT : Hid (angW (tr .f32 .f64 y) (tr .f32 .f64 x) = an3 (FloatKind.f64.format.order (tr .f32 .f64 y) 0 == some .lt) (an2 (FloatKind.f64.format.order (tr .f32 .f64 x) 0 == some .lt) (an1 (angO (tr .f32 .f64 y) (tr .f32 .f64 x)) (anC t)))) := Lib.hid (by rw [HW.out, ht])
            clear ht
            generalize anC t = cC at *
            generalize anB t = cB at *
            generalize anA t = cA at *
            generalize tt t = u at *
            go_wp2_with fail
            go_loopw [9, 10] (fun p k wr => ∃ n p', wr = w1.drewN n ∧ p = .float .f64 p' ∧ ((k = .float .f64 (kA 0) ∧ p' = pA u 0) ∨ (k = .float .f64 (kA 1) ∧ p' = pA u 1) ∨ (k = .float .f64 (kA 2) ∧ p' = pA u 2) ∨ (k = .float .f64 (kA 3) ∧ p' = pA u 3) ∨ (k = .float .f64 (kA 4) ∧ p' = pA u 4) ∨ (k = .float .f64 (kA 5) ∧ p' = pA u 5) ∨ (k = .float .f64 (kA 6) ∧ p' = pA u 6) ∨ (k = .float .f64 (kA 7) ∧ p' = pA u 7) ∨ (k = .float .f64 (kA 8) ∧ p' = pA u 8))) (fun _ k _ => kAM k)
            case atStart => exact ⟨_, _, (by first | rfl | simp only [World.drewN_drewN]), rfl, .inl ⟨rfl, rfl⟩⟩
            case round =>
              obtain ⟨n, p, rfl, rfl, hk⟩ := hrel
              rcases hk with ⟨rfl, hp⟩ | ⟨rfl, hp⟩ | ⟨rfl, hp⟩ | ⟨rfl, hp⟩ | ⟨rfl, hp⟩ | ⟨rfl, hp⟩ | ⟨rfl, hp⟩ | ⟨rfl, hp⟩ | ⟨rfl, hp⟩
              · obtain ⟨r, m, p', k, k', h1, h2, h3, h4, h5, h6, h7, h8, h9⟩ := pA_round IU.out 0 (by omega)
                rw [← hp] at h4
                have H6 := Lib.hid h6; have H8 := Lib.hid h8; clear h6 h8 hp
                rw [← h1]
                have H1 := Lib.hid h1
                clear h1 h2 kA1 kB1 kC1 ku
                go_wp2
                go_roundw
                case rel => exact ⟨_, _, (by first | rfl | simp only [World.drewN_drewN]), rfl, (.inr (.inl ⟨by rw [H8.out], H6.out⟩))⟩
                case measure => rw [H1.out, H8.out]; decide
              · obtain ⟨r, m, p', k, k', h1, h2, h3, h4, h5, h6, h7, h8, h9⟩ := pA_round IU.out 1 (by omega)
                rw [← hp] at h4
                have H6 := Lib.hid h6; have H8 := Lib.hid h8; clear h6 h8 hp
                rw [← h1]
                have H1 := Lib.hid h1
                clear h1 h2 kA1 kB1 kC1 ku
                go_wp2
                go_roundw
                case rel => exact ⟨_, _, (by first | rfl | simp only [World.drewN_drewN]), rfl, (.inr (.inr (.inl ⟨by rw [H8.out], H6.out⟩)))⟩
                case measure => rw [H1.out, H8.out]; decide
              · obtain ⟨r, m, p', k, k', h1, h2, h3, h4, h5, h6, h7, h8, h9⟩ := pA_round IU.out 2 (by omega)
                rw [← hp] at h4
                have H6 := Lib.hid h6; have H8 := Lib.hid h8; clear h6 h8 hp
                rw [← h1]
                have H1 := Lib.hid h1
                clear h1 h2 kA1 kB1 kC1 ku
                go_wp2
                go_roundw
                case rel => exact ⟨_, _, (by first | rfl | simp only [World.drewN_drewN]), rfl, (.inr (.inr (.inr (.inl ⟨by rw [H8.out], H6.out⟩))))⟩
                case measure => rw [H1.out, H8.out]; decide
              · obtain ⟨r, m, p', k, k', h1, h2, h3, h4, h5, h6, h7, h8, h9⟩ := pA_round IU.out 3 (by omega)
                rw [← hp] at h4
                have H6 := Lib.hid h6; have H8 := Lib.hid h8; clear h6 h8 hp
                rw [← h1]
                have H1 := Lib.hid h1
                clear h1 h2 kA1 kB1 kC1 ku
                go_wp2
                go_roundw
                case rel => exact ⟨_, _, (by first | rfl | simp only [World.drewN_drewN]), rfl, (.inr (.inr (.inr (.inr (.inl ⟨by rw [H8.out], H6.out⟩)))))⟩
                case measure => rw [H1.out, H8.out]; decide
              · obtain ⟨r, m, p', k, k', h1, h2, h3, h4, h5, h6, h7, h8, h9⟩ := pA_round IU.out 4 (by omega)
                rw [← hp] at h4
                have H6 := Lib.hid h6; have H8 := Lib.hid h8; clear h6 h8 hp
                rw [← h1]
                have H1 := Lib.hid h1
                clear h1 h2 kA1 kB1 kC1 ku
                go_wp2
                go_roundw
                case rel => exact ⟨_, _, (by first | rfl | simp only [World.drewN_drewN]), rfl, (.inr (.inr (.inr (.inr (.inr (.inl ⟨by rw [H8.out], H6.out⟩))))))⟩
                case measure => rw [H1.out, H8.out]; decide
              · obtain ⟨r, m, p', k, k', h1, h2, h3, h4, h5, h6, h7, h8, h9⟩ := pA_round IU.out 5 (by omega)
                rw [← hp] at h4
                have H6 := Lib.hid h6; have H8 := Lib.hid h8; clear h6 h8 hp
                rw [← h1]
                have H1 := Lib.hid h1
                clear h1 h2 kA1 kB1 kC1 ku
                go_wp2
                go_roundw
                case rel => exact ⟨_, _, (by first | rfl | simp only [World.drewN_drewN]), rfl, (.inr (.inr (.inr (.inr (.inr (.inr (.inl ⟨by rw [H8.out], H6.out⟩)))))))⟩
                case measure => rw [H1.out, H8.out]; decide
              · obtain ⟨r, m, p', k, k', h1, h2, h3, h4, h5, h6, h7, h8, h9⟩ := pA_round IU.out 6 (by omega)
                rw [← hp] at h4
                have H6 := Lib.hid h6; have H8 := Lib.hid h8; clear h6 h8 hp
                rw [← h1]
                have H1 := Lib.hid h1
                clear h1 h2 kA1 kB1 kC1 ku
                go_wp2
                go_roundw
                case rel => exact ⟨_, _, (by first | rfl | simp only [World.drewN_drewN]), rfl, (.inr (.inr (.inr (.inr (.inr (.inr (.inr (.inl ⟨by rw [H8.out], H6.out⟩))))))))⟩
                case measure => rw [H1.out, H8.out]; decide
              · obtain ⟨r, m, p', k, k', h1, h2, h3, h4, h5, h6, h7, h8, h9⟩ := pA_round IU.out 7 (by omega)
                rw [← hp] at h4
                have H6 := Lib.hid h6; have H8 := Lib.hid h8; clear h6 h8 hp
                rw [← h1]
                have H1 := Lib.hid h1
                clear h1 h2 kA1 kB1 kC1 ku
                go_wp2
                go_roundw
                case rel => exact ⟨_, _, (by first | rfl | simp only [World.drewN_drewN]), rfl, (.inr (.inr (.inr (.inr (.inr (.inr (.inr (.inr (⟨by rw [H8.out], H6.out⟩)))))))))⟩
                case measure => rw [H1.out, H8.out]; decide
              · rw [← hp] at kA1
                clear hp ku
                have hm := kA_end
                generalize kA 8 = kk at *
                have hO : angO (tr .f32 .f64 y) (tr .f32 .f64 x) = true := c1
                obtain ⟨f1, g1⟩ := an1_in true IC.out
                have f1 := f1 rfl
                have HT2 : Hid (angW (tr .f32 .f64 y) (tr .f32 .f64 x) = an3 (FloatKind.f64.format.order (tr .f32 .f64 y) 0 == some .lt) (an2 (FloatKind.f64.format.order (tr .f32 .f64 x) 0 == some .lt) (opw .sub 0x3FD0000000000000 cC))) := Lib.hid (by rw [HT.out, hO]; rfl)
                have G1 : Hid (In (some (opw .sub 0x3FD0000000000000 cC)) (-42) 42) := Lib.hid g1
                clear g1 hO HT IC
                generalize opw .sub 0x3FD0000000000000 cC = v1 at *
                cases xl : (FloatKind.f32.format.order x 0 == some .lt)
                · have HT3 : Hid (angW (tr .f32 .f64 y) (tr .f32 .f64 x) = an3 (FloatKind.f64.format.order (tr .f32 .f64 y) 0 == some .lt) v1) := Lib.hid (by rw [HT2.out, order0_wide HX.out, xl]; rfl)
                  have G2 : Hid (In (some v1) (-44) 44) := Lib.hid (an2_in false G1.out).2
                  clear HT2 G1
                  cases yl : (FloatKind.f32.format.order y 0 == some .lt)
                  · have HT4 : Hid (angW (tr .f32 .f64 y) (tr .f32 .f64 x) = v1) := Lib.hid (by rw [HT3.out, order0_wide HY.out, yl]; rfl)
                    go_wp2
                    go_ret
                    exact .mk' (by rw [narrow_in (show In (some v1) (-44) 44 from (an3_in false G2.out)) (by omega) (by omega) _, HT4.out]) (by first | exact below_dn HB1.out _ | (simp only [World.drewN_drewN]; exact below_dn HB1.out _))
                  · have HT4 : Hid (angW (tr .f32 .f64 y) (tr .f32 .f64 x) = Op.negFloat .f64 v1) := Lib.hid (by rw [HT3.out, order0_wide HY.out, yl]; rfl)
                    go_wp2
                    go_ret
                    exact .mk' (by rw [narrow_in (show In (some (Op.negFloat .f64 v1)) (-44) 44 from (an3_in true G2.out)) (by omega) (by omega) _, HT4.out]) (by first | exact below_dn HB1.out _ | (simp only [World.drewN_drewN]; exact below_dn HB1.out _))
                · obtain ⟨f2, g2⟩ := an2_in true G1.out
                  have f2 := f2 rfl
                  have HT3 : Hid (angW (tr .f32 .f64 y) (tr .f32 .f64 x) = an3 (FloatKind.f64.format.order (tr .f32 .f64 y) 0 == some .lt) (opw .sub 0x3FE0000000000000 v1)) := Lib.hid (by rw [HT2.out, order0_wide HX.out, xl]; rfl)
                  have G2 : Hid (In (some (opw .sub 0x3FE0000000000000 v1)) (-44) 44) := Lib.hid g2
                  clear g2 HT2 G1
                  generalize opw .sub 0x3FE0000000000000 v1 = v2 at *
                  cases yl : (FloatKind.f32.format.order y 0 == some .lt)
                  · have HT4 : Hid (angW (tr .f32 .f64 y) (tr .f32 .f64 x) = v2) := Lib.hid (by rw [HT3.out, order0_wide HY.out, yl]; rfl)
                    go_wp2
                    go_ret
                    exact .mk' (by rw [narrow_in (show In (some v2) (-44) 44 from (an3_in false G2.out)) (by omega) (by omega) _, HT4.out]) (by first | exact below_dn HB1.out _ | (simp only [World.drewN_drewN]; exact below_dn HB1.out _))
                  · have HT4 : Hid (angW (tr .f32 .f64 y) (tr .f32 .f64 x) = Op.negFloat .f64 v2) := Lib.hid (by rw [HT3.out, order0_wide HY.out, yl]; rfl)
                    go_wp2
                    go_ret
                    exact .mk' (by rw [narrow_in (show In (some (Op.negFloat .f64 v2)) (-44) 44 from (an3_in true G2.out)) (by omega) (by omega) _, HT4.out]) (by first | exact below_dn HB1.out _ | (simp only [World.drewN_drewN]; exact below_dn HB1.out _))
      · replace c2 := zero32 HX.out c2
        replace c3 := zero32 HY.out c3
        go_enter Try.func32, Try.ntmps32
        go_wp2_with fail
        refine (impl_areFinite _ _ [x, y] (two_FS _ _ _)).mono ?_
        rintro e w1 ⟨rfl, n1, hw1⟩
        rw [HF.out]
        have HB1 : Hid (Below w.heap.size w w1) := Lib.hid (by rw [hw1]; exact below_dn ((Below.refl _ _).alloc (Nat.le_refl _) _) _)
        clear hw1
        go_wp2_with fail
        refine (math_Abs _ HLY.out _).mono ?_
        rintro e w' ⟨rfl, n, rfl⟩
        go_wp2_with fail
        refine (math_Abs _ HLX.out _).mono ?_
        rintro e w' ⟨rfl, n2, rfl⟩
        go_wp2_with fail
        go_loopw [7, 42] (fun t k wr => ∃ n t', wr = w1.drewN n ∧ t = .float .f64 t' ∧ ((k = .int .i64 0 ∧ t' = tW t0 0) ∨ (k = .int .i64 1 ∧ t' = tW t0 1) ∨ (k = .int .i64 2 ∧ t' = tW t0 2) ∨ (k = .int .i64 3 ∧ t' = tW t0 3))) (fun _ k _ => 3 - (intOf k).toNat)
        case atStart => exact ⟨_, _, (by first | rfl | simp only [World.drewN_drewN]), rfl, .inl ⟨rfl, rfl⟩⟩
        case round =>
          obtain ⟨n, t, rfl, rfl, hk⟩ := hrel
          rcases hk with ⟨rfl, ht⟩ | ⟨rfl, ht⟩ | ⟨rfl, ht⟩ | ⟨rfl, ht⟩
          · obtain ⟨a1, b1, s1, d1, e1, h1, h2, h3, h4, h5, h6⟩ := t_round (tW_in I1.out 0)
            rw [← ht] at h1 h5
            have H6 := Lib.hid (show e1 = tW t0 1 from h6); clear h6 ht
            go_wp2_with fail
            refine (math_Sqrt _ _).mono ?_
            rintro e w' ⟨rfl, rfl⟩
            go_wp2
            go_roundw
            case rel => exact ⟨_, _, (by first | rfl | simp only [World.drewN_drewN]), rfl, (.inr (.inl ⟨rfl, H6.out⟩))⟩
            case measure => simp [intOf]
          · obtain ⟨a1, b1, s1, d1, e1, h1, h2, h3, h4, h5, h6⟩ := t_round (tW_in I1.out 1)
            rw [← ht] at h1 h5
            have H6 := Lib.hid (show e1 = tW t0 2 from h6); clear h6 ht
            go_wp2_with fail
            refine (math_Sqrt _ _).mono ?_
            rintro e w' ⟨rfl, rfl⟩
            go_wp2
            go_roundw
            case rel => exact ⟨_, _, (by first | rfl | simp only [World.drewN_drewN]), rfl, (.inr (.inr (.inl ⟨rfl, H6.out⟩)))⟩
            case measure => simp [intOf]
          · obtain ⟨a1, b1, s1, d1, e1, h1, h2, h3, h4, h5, h6⟩ := t_round (tW_in I1.out 2)
            rw [← ht] at h1 h5
            have H6 := Lib.hid (show e1 = tW t0 3 from h6); clear h6 ht
            go_wp2_with fail
            refine (math_Sqrt _ _).mono ?_
            rintro e w' ⟨rfl, rfl⟩
            go_wp2
            go_roundw
            case rel => exact ⟨_, _, (by first | rfl | simp only [World.drewN_drewN]), rfl, (.inr (.inr (.inr (⟨rfl, H6.out⟩))))⟩
            case measure => simp [intOf]
          · have IT := Lib.hid (show In (some t) 0 4 by rw [ht]; exact tW_in I1.out 3)
            obtain ⟨ku, _⟩ := tt_in IT.out
            have IU := Lib.hid (tt_in IT.out).2
            obtain ⟨kA1, _⟩ := anA_in IT.out
            obtain ⟨kB1, _⟩ := anB_in IT.out
            obtain ⟨kC1, iC⟩ := anC_in IT.out
            have IC := Lib.hid iC; clear iC
            have HT : Hid (angW (tr .f32 .f64 y) (tr .f32 .f64 x) = an3 (FloatKind.f64.format.order (tr .f32 .f64 y) 0 == some .lt) (an2 (FloatKind.f64.format.order (tr .f32 .f64 x) 0 == some .lt) (an1 (angO (tr .f32 .f64 y) (tr .f32 .f64 x)) (anC t)))) := Lib.hid (by rw [HW.out, ht])
            clear ht
            generalize anC t = cC at *
            generalize anB t = cB at *
            generalize anA t = cA at *
            generalize tt t = u at *
            go_wp2_with fail
            go_loopw [9, 10] (fun p k wr => ∃ n p', wr = w1.drewN n ∧ p = .float .f64 p' ∧ ((k = .float .f64 (kA 0) ∧ p' = pA u 0) ∨ (k = .float .f64 (kA 1) ∧ p' = pA u 1) ∨ (k = .float .f64 (kA 2) ∧ p' = pA u 2) ∨ (k = .float .f64 (kA 3) ∧ p' = pA u 3) ∨ (k = .float .f64 (kA 4) ∧ p' = pA u 4) ∨ (k = .float .f64 (kA 5) ∧ p' = pA u 5) ∨ (k = .float .f64 (kA 6) ∧ p' = pA u 6) ∨ (k = .float .f64 (kA 7) ∧ p' = pA u 7) ∨ (k = .float .f64 (kA 8) ∧ p' = pA u 8))) (fun _ k _ => kAM k)
            case atStart => exact ⟨_, _, (by first | rfl | simp only [World.drewN_drewN]), rfl, .inl ⟨rfl, rfl⟩⟩
            case round =>
              obtain ⟨n, p, rfl, rfl, hk⟩ := hrel
              rcases hk with ⟨rfl, hp⟩ | ⟨rfl, hp⟩ | ⟨rfl, hp⟩ | ⟨rfl, hp⟩ | ⟨rfl, hp⟩ | ⟨rfl, hp⟩ | ⟨rfl, hp⟩ | ⟨rfl, hp⟩ | ⟨rfl, hp⟩
              · obtain ⟨r, m, p', k, k', h1, h2, h3, h4, h5, h6, h7, h8, h9⟩ := pA_round IU.out 0 (by omega)
                rw [← hp] at h4
                have H6 := Lib.hid h6; have H8 := Lib.hid h8; clear h6 h8 hp
                rw [← h1]
                have H1 := Lib.hid h1
                clear h1 h2 kA1 kB1 kC1 ku
                go_wp2
                go_roundw
                case rel => exact ⟨_, _, (by first | rfl | simp only [World.drewN_drewN]), rfl, (.inr (.inl ⟨by rw [H8.out], H6.out⟩))⟩
                case measure => rw [H1.out, H8.out]; decide
              · obtain ⟨r, m, p', k, k', h1, h2, h3, h4, h5, h6, h7, h8, h9⟩ := pA_round IU.out 1 (by omega)
                rw [← hp] at h4
                have H6 := Lib.hid h6; have H8 := Lib.hid h8; clear h6 h8 hp
                rw [← h1]
                have H1 := Lib.hid h1
                clear h1 h2 kA1 kB1 kC1 ku
                go_wp2
                go_roundw
                case rel => exact ⟨_, _, (by first | rfl | simp only [World.drewN_drewN]), rfl, (.inr (.inr (.inl ⟨by rw [H8.out], H6.out⟩)))⟩
                case measure => rw [H1.out, H8.out]; decide
              · obtain ⟨r, m, p', k, k', h1, h2, h3, h4, h5, h6, h7, h8, h9⟩ := pA_round IU.out 2 (by omega)
                rw [← hp] at h4
                have H6 := Lib.hid h6; have H8 := Lib.hid h8; clear h6 h8 hp
                rw [← h1]
                have H1 := Lib.hid h1
                clear h1 h2 kA1 kB1 kC1 ku
                go_wp2
                go_roundw
                case rel => exact ⟨_, _, (by first | rfl | simp only [World.drewN_drewN]), rfl, (.inr (.inr (.inr (.inl ⟨by rw [H8.out], H6.out⟩))))⟩
                case measure => rw [H1.out, H8.out]; decide
              · obtain ⟨r, m, p', k, k', h1, h2, h3, h4, h5, h6, h7, h8, h9⟩ := pA_round IU.out 3 (by omega)
                rw [← hp] at h4
                have H6 := Lib.hid h6; have H8 := Lib.hid h8; clear h6 h8 hp
                rw [← h1]
                have H1 := Lib.hid h1
                clear h1 h2 kA1 kB1 kC1 ku
                go_wp2
                go_roundw
                case rel => exact ⟨_, _, (by first | rfl | simp only [World.drewN_drewN]), rfl, (.inr (.inr (.inr (.inr (.inl ⟨by rw [H8.out], H6.out⟩)))))⟩
                case measure => rw [H1.out, H8.out]; decide
              · obtain ⟨r, m, p', k, k', h1, h2, h3, h4, h5, h6, h7, h8, h9⟩ := pA_round IU.out 4 (by omega)
                rw [← hp] at h4
                have H6 := Lib.hid h6; have H8 := Lib.hid h8; clear h6 h8 hp
                rw [← h1]
                have H1 := Lib.hid h1
                clear h1 h2 kA1 kB1 kC1 ku
                go_wp2
                go_roundw
                case rel => exact ⟨_, _, (by first | rfl | simp only [World.drewN_drewN]), rfl, (.inr (.inr (.inr (.inr (.inr (.inl ⟨by rw [H8.out], H6.out⟩))))))⟩
                case measure => rw [H1.out, H8.out]; decide
              · obtain ⟨r, m, p', k, k', h1, h2, h3, h4, h5, h6, h7, h8, h9⟩ := pA_round IU.out 5 (by omega)
                rw [← hp] at h4
                have H6 := Lib.hid h6; have H8 := Lib.hid h8; clear h6 h8 hp
                rw [← h1]
                have H1 := Lib.hid h1
                clear h1 h2 kA1 kB1 kC1 ku
                go_wp2
                go_roundw
                case rel => exact ⟨_, _, (by first | rfl | simp only [World.drewN_drewN]), rfl, (.inr (.inr (.inr (.inr (.inr (.inr (.inl ⟨by rw [H8.out], H6.out⟩)))))))⟩
                case measure => rw [H1.out, H8.out]; decide
              · obtain ⟨r, m, p', k, k', h1, h2, h3, h4, h5, h6, h7, h8, h9⟩ := pA_round IU.out 6 (by omega)
                rw [← hp] at h4
                have H6 := Lib.hid h6; have H8 := Lib.hid h8; clear h6 h8 hp
                rw [← h1]
                have H1 := Lib.hid h1
                clear h1 h2 kA1 kB1 kC1 ku
                go_wp2
                go_roundw
                case rel => exact ⟨_, _, (by first | rfl | simp only [World.drewN_drewN]), rfl, (.inr (.inr (.inr (.inr (.inr (.inr (.inr (.inl ⟨by rw [H8.out], H6.out⟩))))))))⟩
                case measure => rw [H1.out, H8.out]; decide
              · obtain ⟨r, m, p', k, k', h1, h2, h3, h4, h5, h6, h7, h8, h9⟩ := pA_round IU.out 7 (by omega)
                rw [← hp] at h4
                have H6 := Lib.hid h6; have H8 := Lib.hid h8; clear h6 h8 hp
                rw [← h1]
                have H1 := Lib.hid h1
                clear h1 h2 kA1 kB1 kC1 ku
                go_wp2
                go_roundw
                case rel => exact ⟨_, _, (by first | rfl | simp only [World.drewN_drewN]), rfl, (.inr (.inr (.inr (.inr (.inr (.inr (.inr (.inr (⟨by rw [H8.out], H6.out⟩)))))))))⟩
                case measure => rw [H1.out, H8.out]; decide
              · rw [← hp] at kA1
                clear hp ku
                have hm := kA_end
                generalize kA 8 = kk at *
                have hO : angO (tr .f32 .f64 y) (tr .f32 .f64 x) = true := c1
                obtain ⟨f1, g1⟩ := an1_in true IC.out
                have f1 := f1 rfl
                have HT2 : Hid (angW (tr .f32 .f64 y) (tr .f32 .f64 x) = an3 (FloatKind.f64.format.order (tr .f32 .f64 y) 0 == some .lt) (an2 (FloatKind.f64.format.order (tr .f32 .f64 x) 0 == some .lt) (opw .sub 0x3FD0000000000000 cC))) := Lib.hid (by rw [HT.out, hO]; rfl)
                have G1 : Hid (In (some (opw .sub 0x3FD0000000000000 cC)) (-42) 42) := Lib.hid g1
                clear g1 hO HT IC
                generalize opw .sub 0x3FD0000000000000 cC = v1 at *
                cases xl : (FloatKind.f32.format.order x 0 == some .lt)
                · have HT3 : Hid (angW (tr .f32 .f64 y) (tr .f32 .f64 x) = an3 (FloatKind.f64.format.order (tr .f32 .f64 y) 0 == some .lt) v1) := Lib.hid (by rw [HT2.out, order0_wide HX.out, xl]; rfl)
                  have G2 : Hid (In (some v1) (-44) 44) := Lib.hid (an2_in false G1.out).2
                  clear HT2 G1
                  cases yl : (FloatKind.f32.format.order y 0 == some .lt)
                  · have HT4 : Hid (angW (tr .f32 .f64 y) (tr .f32 .f64 x) = v1) := Lib.hid (by rw [HT3.out, order0_wide HY.out, yl]; rfl)
                    go_wp2
                    go_ret
                    exact .mk' (by rw [narrow_in (show In (some v1) (-44) 44 from (an3_in false G2.out)) (by omega) (by omega) _, HT4.out]) (by first | exact below_dn HB1.out _ | (simp only [World.drewN_drewN]; exact below_dn HB1.out _))
                  · have HT4 : Hid (angW (tr .f32 .f64 y) (tr .f32 .f64 x) = Op.negFloat .f64 v1) := Lib.hid (by rw [HT3.out, order0_wide HY.out, yl]; rfl)
                    go_wp2
                    go_ret
                    exact .mk' (by rw [narrow_in (show In (some (Op.negFloat .f64 v1)) (-44) 44 from (an3_in true G2.out)) (by omega) (by omega) _, HT4.out]) (by first | exact below_dn HB1.out _ | (simp only [World.drewN_drewN]; exact below_dn HB1.out _))
                · obtain ⟨f2, g2⟩ := an2_in true G1.out
                  have f2 := f2 rfl
                  have HT3 : Hid (angW (tr .f32 .f64 y) (tr .f32 .f64 x) = an3 (FloatKind.f64.format.order (tr .f32 .f64 y) 0 == some .lt) (opw .sub 0x3FE0000000000000 v1)) := Lib.hid (by rw [HT2.out, order0_wide HX.out, xl]; rfl)
                  have G2 : Hid (In (some (opw .sub 0x3FE0000000000000 v1)) (-44) 44) := Lib.hid g2
                  clear g2 HT2 G1
                  generalize opw .sub 0x3FE0000000000000 v1 = v2 at *
                  cases yl : (FloatKind.f32.format.order y 0 == some .lt)
                  · have HT4 : Hid (angW (tr .f32 .f64 y) (tr .f32 .f64 x) = v2) := Lib.hid (by rw [HT3.out, order0_wide HY.out, yl]; rfl)
                    go_wp2
                    go_ret
                    exact .mk' (by rw [narrow_in (show In (some v2) (-44) 44 from (an3_in false G2.out)) (by omega) (by omega) _, HT4.out]) (by first | exact below_dn HB1.out _ | (simp only [World.drewN_drewN]; exact below_dn HB1.out _))
                  · have HT4 : Hid (angW (tr .f32 .f64 y) (tr .f32 .f64 x) = Op.negFloat .f64 v2) := Lib.hid (by rw [HT3.out, order0_wide HY.out, yl]; rfl)
                    go_wp2
                    go_ret
                    exact .mk' (by rw [narrow_in (show In (some (Op.negFloat .f64 v2)) (-44) 44 from (an3_in true G2.out)) (by omega) (by omega) _, HT4.out]) (by first | exact below_dn HB1.out _ | (simp only [World.drewN_drewN]; exact below_dn HB1.out _))
      · replace c2 := zero32 HX.out c2
        go_enter Try.func32, Try.ntmps32
        go_wp2_with fail
        refine (impl_areFinite _ _ [x, y] (two_FS _ _ _)).mono ?_
        rintro e w1 ⟨rfl, n1, hw1⟩
        rw [HF.out]
        have HB1 : Hid (Below w.heap.size w w1) := Lib.hid (by rw [hw1]; exact below_dn ((Below.refl _ _).alloc (Nat.le_refl _) _) _)
        clear hw1
        go_wp2_with fail
        refine (math_Abs _ HLY.out _).mono ?_
        rintro e w' ⟨rfl, n, rfl⟩
        go_wp2_with fail
        refine (math_Abs _ HLX.out _).mono ?_
        rintro e w' ⟨rfl, n2, rfl⟩
        go_wp2_with fail
        go_loopw [7, 42] (fun t k wr => ∃ n t', wr = w1.drewN n ∧ t = .float .f64 t' ∧ ((k = .int .i64 0 ∧ t' = tW t0 0) ∨ (k = .int .i64 1 ∧ t' = tW t0 1) ∨ (k = .int .i64 2 ∧ t' = tW t0 2) ∨ (k = .int .i64 3 ∧ t' = tW t0 3))) (fun _ k _ => 3 - (intOf k).toNat)
        case atStart => exact ⟨_, _, (by first | rfl | simp only [World.drewN_drewN]), rfl, .inl ⟨rfl, rfl⟩⟩
        case round =>
          obtain ⟨n, t, rfl, rfl, hk⟩ := hrel
          rcases hk with ⟨rfl, ht⟩ | ⟨rfl, ht⟩ | ⟨rfl, ht⟩ | ⟨rfl, ht⟩
          · obtain ⟨a1, b1, s1, d1, e1, h1, h2, h3, h4, h5, h6⟩ := t_round (tW_in I1.out 0)
            rw [← ht] at h1 h5
            have H6 := Lib.hid (show e1 = tW t0 1 from h6); clear h6 ht
            go_wp2_with fail
            refine (math_Sqrt _ _).mono ?_
            rintro e w' ⟨rfl, rfl⟩
            go_wp2
            go_roundw
            case rel => exact ⟨_, _, (by first | rfl | simp only [World.drewN_drewN]), rfl, (.inr (.inl ⟨rfl, H6.out⟩))⟩
            case measure => simp [intOf]
          · obtain ⟨a1, b1, s1, d1, e1, h1, h2, h3, h4, h5, h6⟩ := t_round (tW_in I1.out 1)
            rw [← ht] at h1 h5
            have H6 := Lib.hid (show e1 = tW t0 2 from h6); clear h6 ht
            go_wp2_with fail
            refine (math_Sqrt _ _).mono ?_
            rintro e w' ⟨rfl, rfl⟩
            go_wp2
            go_roundw
            case rel => exact ⟨_, _, (by first | rfl | simp only [World.drewN_drewN]), rfl, (.inr (.inr (.inl ⟨rfl, H6.out⟩)))⟩
            case measure => simp [intOf]
          · obtain ⟨a1, b1, s1, d1, e1, h1, h2, h3, h4, h5, h6⟩ := t_round (tW_in I1.out 2)
            rw [← ht] at h1 h5
            have H6 := Lib.hid (show e1 = tW t0 3 from h6); clear h6 ht
            go_wp2_with fail
            refine (math_Sqrt _ _).mono ?_
            rintro e w' ⟨rfl, rfl⟩
            go_wp2
            go_roundw
            case rel => exact ⟨_, _, (by first | rfl | simp only [World.drewN_drewN]), rfl, (.inr (.inr (.inr (⟨rfl, H6.out⟩))))⟩
            case measure => simp [intOf]
          · have IT := Lib.hid (show In (some t) 0 4 by rw [ht]; exact tW_in I1.out 3)
            obtain ⟨ku, _⟩ := tt_in IT.out
            have IU := Lib.hid (tt_in IT.out).2
            obtain ⟨kA1, _⟩ := anA_in IT.out
            obtain ⟨kB1, _⟩ := anB_in IT.out
            obtain ⟨kC1, iC⟩ := anC_in IT.out
            have IC := Lib.hid iC; clear iC
            have HT : Hid (angW (tr .f32 .f64 y) (tr .f32 .f64 x) = an3 (FloatKind.f64.format.order (tr .f32 .f64 y) 0 == some .lt) (an2 (FloatKind.f64.format.order (tr .f32 .f64 x) 0 == some .lt) (an1 (angO (tr .f32 .f64 y) (tr .f32 .f64 x)) (anC t)))) := Lib.hid (by rw [HW.out, ht])
            clear ht
            generalize anC t = cC at *
            generalize anB t = cB at *
            generalize anA t = cA at *
            generalize tt t = u at *
            go_wp2_with fail
            go_loopw [9, 10] (fun p k wr => ∃ n p', wr = w1.drewN n ∧ p = .float .f64 p' ∧ ((k = .float .f64 (kA 0) ∧ p' = pA u 0) ∨ (k = .float .f64 (kA 1) ∧ p' = pA u 1) ∨ (k = .float .f64 (kA 2) ∧ p' = pA u 2) ∨ (k = .float .f64 (kA 3) ∧ p' = pA u 3) ∨ (k = .float .f64 (kA 4) ∧ p' = pA u 4) ∨ (k = .float .f64 (kA 5) ∧ p' = pA u 5) ∨ (k = .float .f64 (kA 6) ∧ p' = pA u 6) ∨ (k = .float .f64 (kA 7) ∧ p' = pA u 7) ∨ (k = .float .f64 (kA 8) ∧ p' = pA u 8))) (fun _ k _ => kAM k)
            case atStart => exact ⟨_, _, (by first | rfl | simp only [World.drewN_drewN]), rfl, .inl ⟨rfl, rfl⟩⟩
            case round =>
              obtain ⟨n, p, rfl, rfl, hk⟩ := hrel
              rcases hk with ⟨rfl, hp⟩ | ⟨rfl, hp⟩ | ⟨rfl, hp⟩ | ⟨rfl, hp⟩ | ⟨rfl, hp⟩ | ⟨rfl, hp⟩ | ⟨rfl, hp⟩ | ⟨rfl, hp⟩ | ⟨rfl, hp⟩
              · obtain ⟨r, m, p', k, k', h1, h2, h3, h4, h5, h6, h7, h8, h9⟩ := pA_round IU.out 0 (by omega)
                rw [← hp] at h4
                have H6 := Lib.hid h6; have H8 := Lib.hid h8; clear h6 h8 hp
                rw [← h1]
                have H1 := Lib.hid h1
                clear h1 h2 kA1 kB1 kC1 ku
                go_wp2
                go_roundw
                case rel => exact ⟨_, _, (by first | rfl | simp only [World.drewN_drewN]), rfl, (.inr (.inl ⟨by rw [H8.out], H6.out⟩))⟩
                case measure => rw [H1.out, H8.out]; decide
              · obtain ⟨r, m, p', k, k', h1, h2, h3, h4, h5, h6, h7, h8, h9⟩ := pA_round IU.out 1 (by omega)
                rw [← hp] at h4
                have H6 := Lib.hid h6; have H8 := Lib.hid h8; clear h6 h8 hp
                rw [← h1]
                have H1 := Lib.hid h1
                clear h1 h2 kA1 kB1 kC1 ku
                go_wp2
                go_roundw
                case rel => exact ⟨_, _, (by first | rfl | simp only [World.drewN_drewN]), rfl, (.inr (.inr (.inl ⟨by rw [H8.out], H6.out⟩)))⟩
                case measure => rw [H1.out, H8.out]; decide
              · obtain ⟨r, m, p', k, k', h1, h2, h3, h4, h5, h6, h7, h8, h9⟩ := pA_round IU.out 2 (by omega)
                rw [← hp] at h4
                have H6 := Lib.hid h6; have H8 := Lib.hid h8; clear h6 h8 hp
                rw [← h1]
                have H1 := Lib.hid h1
                clear h1 h2 kA1 kB1 kC1 ku
                go_wp2
                go_roundw
                case rel => exact ⟨_, _, (by first | rfl | simp only [World.drewN_drewN]), rfl, (.inr (.inr (.inr (.inl ⟨by rw [H8.out], H6.out⟩))))⟩
                case measure => rw [H1.out, H8.out]; decide
              · obtain ⟨r, m, p', k, k', h1, h2, h3, h4, h5, h6, h7, h8, h9⟩ := pA_round IU.out 3 (by omega)
                rw [← hp] at h4
                have H6 := Lib.hid h6; have H8 := Lib.hid h8; clear h6 h8 hp
                rw [← h1]
                have H1 := Lib.hid h1
                clear h1 h2 kA1 kB1 kC1 ku
                go_wp2
                go_roundw
                case rel => exact ⟨_, _, (by first | rfl | simp only [World.drewN_drewN]), rfl, (.inr (.inr (.inr (.inr (.inl ⟨by rw [H8.out], H6.out⟩)))))⟩
                case measure => rw [H1.out, H8.out]; decide
              · obtain ⟨r, m, p', k, k', h1, h2, h3, h4, h5, h6, h7, h8, h9⟩ := pA_round IU.out 4 (by omega)
                rw [← hp] at h4
                have H6 := Lib.hid h6; have H8 := Lib.hid h8; clear h6 h8 hp
                rw [← h1]
                have H1 := Lib.hid h1
                clear h1 h2 kA1 kB1 kC1 ku
                go_wp2
                go_roundw
                case rel => exact ⟨_, _, (by first | rfl | simp only [World.drewN_drewN]), rfl, (.inr (.inr (.inr (.inr (.inr (.inl ⟨by rw [H8.out], H6.out⟩))))))⟩
                case measure => rw [H1.out, H8.out]; decide
              · obtain ⟨r, m, p', k, k', h1, h2, h3, h4, h5, h6, h7, h8, h9⟩ := pA_round IU.out 5 (by omega)
                rw [← hp] at h4
                have H6 := Lib.hid h6; have H8 := Lib.hid h8; clear h6 h8 hp
                rw [← h1]
                have H1 := Lib.hid h1
                clear h1 h2 kA1 kB1 kC1 ku
                go_wp2
                go_roundw
                case rel => exact ⟨_, _, (by first | rfl | simp only [World.drewN_drewN]), rfl, (.inr (.inr (.inr (.inr (.inr (.inr (.inl ⟨by rw [H8.out], H6.out⟩)))))))⟩
                case measure => rw [H1.out, H8.out]; decide
              · obtain ⟨r, m, p', k, k', h1, h2, h3, h4, h5, h6, h7, h8, h9⟩ := pA_round IU.out 6 (by omega)
                rw [← hp] at h4
                have H6 := Lib.hid h6; have H8 := Lib.hid h8; clear h6 h8 hp
                rw [← h1]
                have H1 := Lib.hid h1
                clear h1 h2 kA1 kB1 kC1 ku
                go_wp2
                go_roundw
                case rel => exact ⟨_, _, (by first | rfl | simp only [World.drewN_drewN]), rfl, (.inr (.inr (.inr (.inr (.inr (.inr (.inr (.inl ⟨by rw [H8.out], H6.out⟩))))))))⟩
                case measure => rw [H1.out, H8.out]; decide
              · obtain ⟨r, m, p', k, k', h1, h2, h3, h4, h5, h6, h7, h8, h9⟩ := pA_round IU.out 7 (by omega)
                rw [← hp] at h4
                have H6 := Lib.hid h6; have H8 := Lib.hid h8; clear h6 h8 hp
                rw [← h1]
                have H1 := Lib.hid h1
                clear h1 h2 kA1 kB1 kC1 ku
                go_wp2
                go_roundw
                case rel => exact ⟨_, _, (by first | rfl | simp only [World.drewN_drewN]), rfl, (.inr (.inr (.inr (.inr (.inr (.inr (.inr (.inr (⟨by rw [H8.out], H6.out⟩)))))))))⟩
                case measure => rw [H1.out, H8.out]; decide
              · rw [← hp] at kA1
                clear hp ku
                have hm := kA_end
                generalize kA 8 = kk at *
                have hO : angO (tr .f32 .f64 y) (tr .f32 .f64 x) = false := c1
                have HT2 : Hid (angW (tr .f32 .f64 y) (tr .f32 .f64 x) = an3 (FloatKind.f64.format.order (tr .f32 .f64 y) 0 == some .lt) (an2 (FloatKind.f64.format.order (tr .f32 .f64 x) 0 == some .lt) cC)) := Lib.hid (by rw [HT.out, hO]; rfl)
                have G1 : Hid (In (some cC) (-42) 42) := Lib.hid (an1_in false IC.out).2
                clear hO HT IC
                cases xl : (FloatKind.f32.format.order x 0 == some .lt)
                · have HT3 : Hid (angW (tr .f32 .f64 y) (tr .f32 .f64 x) = an3 (FloatKind.f64.format.order (tr .f32 .f64 y) 0 == some .lt) cC) := Lib.hid (by rw [HT2.out, order0_wide HX.out, xl]; rfl)
                  have G2 : Hid (In (some cC) (-44) 44) := Lib.hid (an2_in false G1.out).2
                  clear HT2 G1
                  cases yl : (FloatKind.f32.format.order y 0 == some .lt)
                  · have HT4 : Hid (angW (tr .f32 .f64 y) (tr .f32 .f64 x) = cC) := Lib.hid (by rw [HT3.out, order0_wide HY.out, yl]; rfl)
                    go_wp2
                    go_ret
                    exact .mk' (by rw [narrow_in (show In (some cC) (-44) 44 from (an3_in false G2.out)) (by omega) (by omega) _, HT4.out]) (by first | exact below_dn HB1.out _ | (simp only [World.drewN_drewN]; exact below_dn HB1.out _))
                  · have HT4 : Hid (angW (tr .f32 .f64 y) (tr .f32 .f64 x) = Op.negFloat .f64 cC) := Lib.hid (by rw [HT3.out, order0_wide HY.out, yl]; rfl)
                    go_wp2
                    go_ret
                    exact .mk' (by rw [narrow_in (show In (some (Op.negFloat .f64 cC)) (-44) 44 from (an3_in true G2.out)) (by omega) (by omega) _, HT4.out]) (by first | exact below_dn HB1.out _ | (simp only [World.drewN_drewN]; exact below_dn HB1.out _))
                · obtain ⟨f2, g2⟩ := an2_in true G1.out
                  have f2 := f2 rfl
                  have HT3 : Hid (angW (tr .f32 .f64 y) (tr .f32 .f64 x) = an3 (FloatKind.f64.format.order (tr .f32 .f64 y) 0 == some .lt) (opw .sub 0x3FE0000000000000 cC)) := Lib.hid (by rw [HT2.out, order0_wide HX.out, xl]; rfl)
                  have G2 : Hid (In (some (opw .sub 0x3FE0000000000000 cC)) (-44) 44) := Lib.hid g2
                  clear g2 HT2 G1
                  generalize opw .sub 0x3FE0000000000000 cC = v2 at *
                  cases yl : (FloatKind.f32.format.order y 0 == some .lt)
                  · have HT4 : Hid (angW (tr .f32 .f64 y) (tr .f32 .f64 x) = v2) := Lib.hid (by rw [HT3.out, order0_wide HY.out, yl]; rfl)
                    go_wp2
                    go_ret
                    exact .mk' (by rw [narrow_in (show In (some v2) (-44) 44 from (an3_in false G2.out)) (by omega) (by omega) _, HT4.out]) (by first | exact below_dn HB1.out _ | (simp only [World.drewN_drewN]; exact below_dn HB1.out _))
                  · have HT4 : Hid (angW (tr .f32 .f64 y) (tr .f32 .f64 x) = Op.negFloat .f64 v2) := Lib.hid (by rw [HT3.out, order0_wide HY.out, yl]; rfl)
                    go_wp2
                    go_ret
                    exact .mk' (by rw [narrow_in (show In (some (Op.negFloat .f64 v2)) (-44) 44 from (an3_in true G2.out)) (by omega) (by omega) _, HT4.out]) (by first | exact below_dn HB1.out _ | (simp only [World.drewN_drewN]; exact below_dn HB1.out _))
      · replace c2 := zero32 HX.out c2
        replace c3 := zero32 HY.out c3
        go_enter Try.func32, Try.ntmps32
        go_wp2_with fail
        refine (impl_areFinite _ _ [x, y] (two_FS _ _ _)).mono ?_
        rintro e w1 ⟨rfl, n1, hw1⟩
        rw [HF.out]
        have HB1 : Hid (Below w.heap.size w w1) := Lib.hid (by rw [hw1]; exact below_dn ((Below.refl _ _).alloc (Nat.le_refl _) _) _)
        clear hw1
        go_wp2_with fail
        refine (math_Abs _ HLY.out _).mono ?_
        rintro e w' ⟨rfl, n, rfl⟩
        go_wp2_with fail
        refine (math_Abs _ HLX.out _).mono ?_
        rintro e w' ⟨rfl, n2, rfl⟩
        go_wp2_with fail
        go_loopw [7, 42] (fun t k wr => ∃ n t', wr = w1.drewN n ∧ t = .float .f64 t' ∧ ((k = .int .i64 0 ∧ t' = tW t0 0) ∨ (k = .int .i64 1 ∧ t' = tW t0 1) ∨ (k = .int .i64 2 ∧ t' = tW t0 2) ∨ (k = .int .i64 3 ∧ t' = tW t0 3))) (fun _ k _ => 3 - (intOf k).toNat)
        case atStart => exact ⟨_, _, (by first | rfl | simp only [World.drewN_drewN]), rfl, .inl ⟨rfl, rfl⟩⟩
        case round =>
          obtain ⟨n, t, rfl, rfl, hk⟩ := hrel
          rcases hk with ⟨rfl, ht⟩ | ⟨rfl, ht⟩ | ⟨rfl, ht⟩ | ⟨rfl, ht⟩
          · obtain ⟨a1, b1, s1, d1, e1, h1, h2, h3, h4, h5, h6⟩ := t_round (tW_in I1.out 0)
            rw [← ht] at h1 h5
            have H6 := Lib.hid (show e1 = tW t0 1 from h6); clear h6 ht
            go_wp2_with fail
            refine (math_Sqrt _ _).mono ?_
            rintro e w' ⟨rfl, rfl⟩
            go_wp2
            go_roundw
            case rel => exact ⟨_, _, (by first | rfl | simp only [World.drewN_drewN]), rfl, (.inr (.inl ⟨rfl, H6.out⟩))⟩
            case measure => simp [intOf]
          · obtain ⟨a1, b1, s1, d1, e1, h1, h2, h3, h4, h5, h6⟩ := t_round (tW_in I1.out 1)
            rw [← ht] at h1 h5
            have H6 := Lib.hid (show e1 = tW t0 2 from h6); clear h6 ht
            go_wp2_with fail
            refine (math_Sqrt _ _).mono ?_
            rintro e w' ⟨rfl, rfl⟩
            go_wp2
            go_roundw
            case rel => exact ⟨_, _, (by first | rfl | simp only [World.drewN_drewN]), rfl, (.inr (.inr (.inl ⟨rfl, H6.out⟩)))⟩
            case measure => simp [intOf]
          · obtain ⟨a1, b1, s1, d1, e1, h1, h2, h3, h4, h5, h6⟩ := t_round (tW_in I1.out 2)
            rw [← ht] at h1 h5
            have H6 := Lib.hid (show e1 = tW t0 3 from h6); clear h6 ht
            go_wp2_with fail
            refine (math_Sqrt _ _).mono ?_
            rintro e w' ⟨rfl, rfl⟩
            go_wp2
            go_roundw
            case rel => exact ⟨_, _, (by first | rfl | simp only [World.drewN_drewN]), rfl, (.inr (.inr (.inr (⟨rfl, H6.out⟩))))⟩
            case measure => simp [intOf]
          · have IT := Lib.hid (show In (some t) 0 4 by rw [ht]; exact tW_in I1.out 3)
            obtain ⟨ku, _⟩ := tt_in IT.out
            have IU := Lib.hid (tt_in IT.out).2
            obtain ⟨kA1, _⟩ := anA_in IT.out
            obtain ⟨kB1, _⟩ := anB_in IT.out
            obtain ⟨kC1, iC⟩ := anC_in IT.out
            have IC := Lib.hid iC; clear iC
            have HT : Hid (angW (tr .f32 .f64 y) (tr .f32 .f64 x) = an3 (FloatKind.f64.format.order (tr .f32 .f64 y) 0 == some .lt) (an2 (FloatKind.f64.format.order (tr .f32 .f64 x) 0 == some .lt) (an1 (angO (tr .f32 .f64 y) (tr .f32 .f64 x)) (anC t)))) := Lib.hid (by rw [HW.out, ht])
            clear ht
            generalize anC t = cC at *
            generalize anB t = cB at *
            generalize anA t = cA at *
            generalize tt t = u at *
            go_wp2_with fail
            go_loopw [9, 10] (fun p k wr => ∃ n p', wr = w1.drewN n ∧ p = .float .f64 p' ∧ ((k = .float .f64 (kA 0) ∧ p' = pA u 0) ∨ (k = .float .f64 (kA 1) ∧ p' = pA u 1) ∨ (k = .float .f64 (kA 2) ∧ p' = pA u 2) ∨ (k = .float .f64 (kA 3) ∧ p' = pA u 3) ∨ (k = .float .f64 (kA 4) ∧ p' = pA u 4) ∨ (k = .float .f64 (kA 5) ∧ p' = pA u 5) ∨ (k = .float .f64 (kA 6) ∧ p' = pA u 6) ∨ (k = .float .f64 (kA 7) ∧ p' = pA u 7) ∨ (k = .float .f64 (kA 8) ∧ p' = pA u 8))) (fun _ k _ => kAM k)
            case atStart => exact ⟨_, _, (by first | rfl | simp only [World.drewN_drewN]), rfl, .inl ⟨rfl, rfl⟩⟩
            case round =>
              obtain ⟨n, p, rfl, rfl, hk⟩ := hrel
              rcases hk with ⟨rfl, hp⟩ | ⟨rfl, hp⟩ | ⟨rfl, hp⟩ | ⟨rfl, hp⟩ | ⟨rfl, hp⟩ | ⟨rfl, hp⟩ | ⟨rfl, hp⟩ | ⟨rfl, hp⟩ | ⟨rfl, hp⟩
              · obtain ⟨r, m, p', k, k', h1, h2, h3, h4, h5, h6, h7, h8, h9⟩ := pA_round IU.out 0 (by omega)
                rw [← hp] at h4
                have H6 := Lib.hid h6; have H8 := Lib.hid h8; clear h6 h8 hp
                rw [← h1]
                have H1 := Lib.hid h1
                clear h1 h2 kA1 kB1 kC1 ku
                go_wp2
                go_roundw
                case rel => exact ⟨_, _, (by first | rfl | simp only [World.drewN_drewN]), rfl, (.inr (.inl ⟨by rw [H8.out], H6.out⟩))⟩
                case measure => rw [H1.out, H8.out]; decide
              · obtain ⟨r, m, p', k, k', h1, h2, h3, h4, h5, h6, h7, h8, h9⟩ := pA_round IU.out 1 (by omega)
                rw [← hp] at h4
                have H6 := Lib.hid h6; have H8 := Lib.hid h8; clear h6 h8 hp
                rw [← h1]
                have H1 := Lib.hid h1
                clear h1 h2 kA1 kB1 kC1 ku
                go_wp2
                go_roundw
                case rel => exact ⟨_, _, (by first | rfl | simp only [World.drewN_drewN]), rfl, (.inr (.inr (.inl ⟨by rw [H8.out], H6.out⟩)))⟩
                case measure => rw [H1.out, H8.out]; decide
              · obtain ⟨r, m, p', k, k', h1, h2, h3, h4, h5, h6, h7, h8, h9⟩ := pA_round IU.out 2 (by omega)
                rw [← hp] at h4
                have H6 := Lib.hid h6; have H8 := Lib.hid h8; clear h6 h8 hp
                rw [← h1]
                have H1 := Lib.hid h1
                clear h1 h2 kA1 kB1 kC1 ku
                go_wp2
                go_roundw
                case rel => exact ⟨_, _, (by first | rfl | simp only [World.drewN_drewN]), rfl, (.inr (.inr (.inr (.inl ⟨by rw [H8.out], H6.out⟩))))⟩
                case measure => rw [H1.out, H8.out]; decide
              · obtain ⟨r, m, p', k, k', h1, h2, h3, h4, h5, h6, h7, h8, h9⟩ := pA_round IU.out 3 (by omega)
                rw [← hp] at h4
                have H6 := Lib.hid h6; have H8 := Lib.hid h8; clear h6 h8 hp
                rw [← h1]
                have H1 := Lib.hid h1
                clear h1 h2 kA1 kB1 kC1 ku
                go_wp2
                go_roundw
                case rel => exact ⟨_, _, (by first | rfl | simp only [World.drewN_drewN]), rfl, (.inr (.inr (.inr (.inr (.inl ⟨by rw [H8.out], H6.out⟩)))))⟩
                case measure => rw [H1.out, H8.out]; decide
              · obtain ⟨r, m, p', k, k', h1, h2, h3, h4, h5, h6, h7, h8, h9⟩ := pA_round IU.out 4 (by omega)
                rw [← hp] at h4
                have H6 := Lib.hid h6; have H8 := Lib.hid h8; clear h6 h8 hp
                rw [← h1]
                have H1 := Lib.hid h1
                clear h1 h2 kA1 kB1 kC1 ku
                go_wp2
                go_roundw
                case rel => exact ⟨_, _, (by first | rfl | simp only [World.drewN_drewN]), rfl, (.inr (.inr (.inr (.inr (.inr (.inl ⟨by rw [H8.out], H6.out⟩))))))⟩
                case measure => rw [H1.out, H8.out]; decide
              · obtain ⟨r, m, p', k, k', h1, h2, h3, h4, h5, h6, h7, h8, h9⟩ := pA_round IU.out 5 (by omega)
                rw [← hp] at h4
                have H6 := Lib.hid h6; have H8 := Lib.hid h8; clear h6 h8 hp
                rw [← h1]
                have H1 := Lib.hid h1
                clear h1 h2 kA1 kB1 kC1 ku
                go_wp2
                go_roundw
                case rel => exact ⟨_, _, (by first | rfl | simp only [World.drewN_drewN]), rfl, (.inr (.inr (.inr (.inr (.inr (.inr (.inl ⟨by rw [H8.out], H6.out⟩)))))))⟩
                case measure => rw [H1.out, H8.out]; decide
              · obtain ⟨r, m, p', k, k', h1, h2, h3, h4, h5, h6, h7, h8, h9⟩ := pA_round IU.out 6 (by omega)
                rw [← hp] at h4
                have H6 := Lib.hid h6; have H8 := Lib.hid h8; clear h6 h8 hp
                rw [← h1]
                have H1 := Lib.hid h1
                clear h1 h2 kA1 kB1 kC1 ku
                go_wp2
                go_roundw
                case rel => exact ⟨_, _, (by first | rfl | simp only [World.drewN_drewN]), rfl, (.inr (.inr (.inr (.inr (.inr (.inr (.inr (.inl ⟨by rw [H8.out], H6.out⟩))))))))⟩
                case measure => rw [H1.out, H8.out]; decide
              · obtain ⟨r, m, p', k, k', h1, h2, h3, h4, h5, h6, h7, h8, h9⟩ := pA_round IU.out 7 (by omega)
                rw [← hp] at h4
                have H6 := Lib.hid h6; have H8 := Lib.hid h8; clear h6 h8 hp
                rw [← h1]
                have H1 := Lib.hid h1
                clear h1 h2 kA1 kB1 kC1 ku
                go_wp2
                go_roundw
                case rel => exact ⟨_, _, (by first | rfl | simp only [World.drewN_drewN]), rfl, (.inr (.inr (.inr (.inr (.inr (.inr (.inr (.inr (⟨by rw [H8.out], H6.out⟩)))))))))⟩
                case measure => rw [H1.out, H8.out]; decide
              · rw [← hp] at kA1
                clear hp ku
                have hm := kA_end
                generalize kA 8 = kk at *
                have hO : angO (tr .f32 .f64 y) (tr .f32 .f64 x) = false := c1
                have HT2 : Hid (angW (tr .f32 .f64 y) (tr .f32 .f64 x) = an3 (FloatKind.f64.format.order (tr .f32 .f64 y) 0 == some .lt) (an2 (FloatKind.f64.format.order (tr .f32 .f64 x) 0 == some .lt) cC)) := Lib.hid (by rw [HT.out, hO]; rfl)
                have G1 : Hid (In (some cC) (-42) 42) := Lib.hid (an1_in false IC.out).2
                clear hO HT IC
                cases xl : (FloatKind.f32.format.order x 0 == some .lt)
                · have HT3 : Hid (angW (tr .f32 .f64 y) (tr .f32 .f64 x) = an3 (FloatKind.f64.format.order (tr .f32 .f64 y) 0 == some .lt) cC) := Lib.hid (by rw [HT2.out, order0_wide HX.out, xl]; rfl)
                  have G2 : Hid (In (some cC) (-44) 44) := Lib.hid (an2_in false G1.out).2
                  clear HT2 G1
                  cases yl : (FloatKind.f32.format.order y 0 == some .lt)
                  · have HT4 : Hid (angW (tr .f32 .f64 y) (tr .f32 .f64 x) = cC) := Lib.hid (by rw [HT3.out, order0_wide HY.out, yl]; rfl)
                    go_wp2
                    go_ret
                    exact .mk' (by rw [narrow_in (show In (some cC) (-44) 44 from (an3_in false G2.out)) (by omega) (by omega) _, HT4.out]) (by first | exact below_dn HB1.out _ | (simp only [World.drewN_drewN]; exact below_dn HB1.out _))
                  · have HT4 : Hid (angW (tr .f32 .f64 y) (tr .f32 .f64 x) = Op.negFloat .f64 cC) := Lib.hid (by rw [HT3.out, order0_wide HY.out, yl]; rfl)
                    go_wp2
                    go_ret
                    exact .mk' (by rw [narrow_in (show In (some (Op.negFloat .f64 cC)) (-44) 44 from (an3_in true G2.out)) (by omega) (by omega) _, HT4.out]) (by first | exact below_dn HB1.out _ | (simp only [World.drewN_drewN]; exact below_dn HB1.out _))
                · obtain ⟨f2, g2⟩ := an2_in true G1.out
                  have f2 := f2 rfl
                  have HT3 : Hid (angW (tr .f32 .f64 y) (tr .f32 .f64 x) = an3 (FloatKind.f64.format.order (tr .f32 .f64 y) 0 == some .lt) (opw .sub 0x3FE0000000000000 cC)) := Lib.hid (by rw [HT2.out, order0_wide HX.out, xl]; rfl)
                  have G2 : Hid (In (some (opw .sub 0x3FE0000000000000 cC)) (-44) 44) := Lib.hid g2
                  clear g2 HT2 G1
                  generalize opw .sub 0x3FE0000000000000 cC = v2 at *
                  cases yl : (FloatKind.f32.format.order y 0 == some .lt)
                  · have HT4 : Hid (angW (tr .f32 .f64 y) (tr .f32 .f64 x) = v2) := Lib.hid (by rw [HT3.out, order0_wide HY.out, yl]; rfl)
                    go_wp2
                    go_ret
                    exact .mk' (by rw [narrow_in (show In (some v2) (-44) 44 from (an3_in false G2.out)) (by omega) (by omega) _, HT4.out]) (by first | exact below_dn HB1.out _ | (simp only [World.drewN_drewN]; exact below_dn HB1.out _))
                  · have HT4 : Hid (angW (tr .f32 .f64 y) (tr .f32 .f64 x) = Op.negFloat .f64 v2) := Lib.hid (by rw [HT3.out, order0_wide HY.out, yl]; rfl)
                    go_wp2
                    go_ret
                    exact .mk' (by rw [narrow_in (show In (some (Op.negFloat .f64 v2)) (-44) 44 from (an3_in true G2.out)) (by omega) (by omega) _, HT4.out]) (by first | exact below_dn HB1.out _ | (simp only [World.drewN_drewN]; exact below_dn HB1.out _))

theorem law_AngleTurns (y x : Nat) (w : World) : Calls Try.prog 11 #[.float .f32 y, .float .f32 x] w (RetB (.bool true) w) := by
  go_enter Try.func11, Try.ntmps11
  go_wp2_with fail
  refine (spec_AngleTurns _ _ _).mono ?_
  rintro e w1 ⟨r, rfl, hr, n, hw⟩
  have HR := Lib.hid hr; clear hr
  have HB1 : Hid (Below w.heap.size w w1) := Lib.hid (by rw [hw]; exact below_dn (Below.refl _ _) _)
  clear hw
  go_wp2_with fail
  refine (impl_AngleTurns _ _ _).mono ?_
  rintro e w2 ⟨s, rfl, hs, hb⟩
  have HS := Lib.hid hs; clear hs
  have HB2 := Lib.hid (HB1.out.trans (hb.mono HB1.out.size)); clear hb
  go_wp2_with fail
  refine (sameFloat_w _ _ (HS.out.trans HR.out.symm) _ _ _).mono ?_
  rintro e w' ⟨rfl, n'', rfl⟩
  go_wp2
  go_ret
  exact .mk' rfl (by first | exact below_dn HB2.out _ | (simp only [World.drewN_drewN]; exact below_dn HB2.out _))

end Go.Proofs.Ytjpbimfnppmbcaa
