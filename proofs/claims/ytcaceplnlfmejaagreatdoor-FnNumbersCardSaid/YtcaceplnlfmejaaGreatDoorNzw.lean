/- AngleTurns with the bound of its word (the walk of Wr5, said of RetKw). -/
import Derived.Test.YtcaceplnlfmejaaGreatDoorWr5
namespace Go.Proofs.YtcaceplnlfmejaaGreatDoor
open Fl Go.RowKit

/-- As RetKB, and the word is one of the kind. -/
def RetKw (k : FloatKind) (c : Option Nat) (w : World) (e : Ending) (w' : World) : Prop := ∃ r, e = .returned (.float k r) ∧ cls k r = c ∧ Below w.heap.size w w' ∧ r < 2 ^ k.format.width
theorem RetKw.mk' {k : FloatKind} {r : Nat} {c : Option Nat} {w w' : World} (h : cls k r = c) (hw : Below w.heap.size w w') (hr : r < 2 ^ k.format.width := by first | exact cv_narrow_lt _ _ | decide) : RetKw k c w (.returned (.float k r)) w' := ⟨r, rfl, h, hw, hr⟩

set_option maxHeartbeats 1600000 in
theorem impl_AngleTurnsW (y x : Nat) (w : World) : Calls Tryz.prog 34 #[.float .f32 y, .float .f32 x] w (RetKw .f32 (angC y x) w) := by
  cases hf : (finb FloatKind.f32.format y && finb FloatKind.f32.format x)
  · have HF := Lib.hid (show [x, y].any notFin = true by rw [two_any, hf]; rfl)
    rw [angC_nan hf]
    clear hf
    go_enter Tryz.func34, Tryz.ntmps34
    go_wp2_with fail
    refine (impl_areFinite _ _ [x, y] (two_FS _ _ _)).mono ?_
    rintro e w1 ⟨rfl, n1, hw1⟩
    rw [HF.out]
    have HB1 : Hid (Below w.heap.size w w1) := Lib.hid (by rw [hw1]; exact below_dn ((Below.refl _ _).alloc (Nat.le_refl _) _) _)
    clear hw1
    go_wp2_with fail
    refine (math_NaN _).mono ?_
    rintro e w' ⟨b, rfl, hb, n, rfl⟩
    have HB := Lib.hid hb; clear hb
    go_wp2
    go_ret
    exact .mk' (narrow_nan HB.out _) (by first | exact below_dn HB1.out _ | (simp only [World.drewN_drewN]; exact below_dn HB1.out _))
  · have HF := Lib.hid (show [x, y].any notFin = false by rw [two_any, hf]; rfl)
    rw [Bool.and_eq_true] at hf
    obtain ⟨hy, hx⟩ := hf
    have k1 := cv_tr hy
    have k2 := cv_tr hx
    by_cases h0 : N Ieee.double (tr .f32 .f64 x) = 0 ∧ N Ieee.double (tr .f32 .f64 y) = 0
    · rw [angC_zero hy hx h0]
      have c1 : (FloatKind.f32.format.order x 0 == some .eq) = true := zero32 hx (by rw [eq_N (tr_fin hx) zeroF, zeroN]; exact decide_eq_true h0.1)
      have c2 : (FloatKind.f32.format.order y 0 == some .eq) = true := zero32 hy (by rw [eq_N (tr_fin hy) zeroF, zeroN]; exact decide_eq_true h0.2)
      clear h0 hy hx
      go_enter Tryz.func34, Tryz.ntmps34
      go_wp2_with fail
      refine (impl_areFinite _ _ [x, y] (two_FS _ _ _)).mono ?_
      rintro e w1 ⟨rfl, n1, hw1⟩
      rw [HF.out]
      have HB1 : Hid (Below w.heap.size w w1) := Lib.hid (by rw [hw1]; exact below_dn ((Below.refl _ _).alloc (Nat.le_refl _) _) _)
      clear hw1
      go_wp2
      go_ret
      exact .mk' (cls_fin (k := .f32) (zero_fin .f32)) HB1.out
    · rw [angC_some hy hx h0]
      obtain ⟨i1, hor⟩ := angT_or (tr_fin hy) (tr_fin hx) h0
      have hz := zero_tests (tr_fin hy) (tr_fin hx) h0
      have HW : Hid (angW (tr .f32 .f64 y) (tr .f32 .f64 x) = an3 (FloatKind.f64.format.order (tr .f32 .f64 y) 0 == some .lt) (an2 (FloatKind.f64.format.order (tr .f32 .f64 x) 0 == some .lt) (an1 (angO (tr .f32 .f64 y) (tr .f32 .f64 x)) (anC (tW (angT (tr .f32 .f64 y) (tr .f32 .f64 x)) 3))))) := Lib.hid rfl
      have HY := Lib.hid hy; have HX := Lib.hid hx
      have HLY := Lib.hid (tr_lt hy); have HLX := Lib.hid (tr_lt hx)
      clear hy hx h0
      generalize angT (tr .f32 .f64 y) (tr .f32 .f64 x) = t0 at *
      have I1 := Lib.hid i1; clear i1
      rcases hor with ⟨c1, r1⟩ | ⟨c1, r1⟩
      all_goals rcases hz with c2 | ⟨c2, c3⟩
      · replace c2 := zero32 HX.out c2
        go_enter Tryz.func34, Tryz.ntmps34
        go_wp2_with fail
        refine (impl_areFinite _ _ [x, y] (two_FS _ _ _)).mono ?_
        rintro e w1 ⟨rfl, n1, hw1⟩
        rw [HF.out]
        have HB1 : Hid (Below w.heap.size w w1) := Lib.hid (by rw [hw1]; exact below_dn ((Below.refl _ _).alloc (Nat.le_refl _) _) _)
        clear hw1
        go_wp2_with fail
        refine (math_Abs _ HLY.out _).mono ?_
        rintro e w' ⟨rfl, n, rfl⟩
        go_wp2_with fail
        refine (math_Abs _ HLX.out _).mono ?_
        rintro e w' ⟨rfl, n2, rfl⟩
        go_wp2_with fail
        go_loopw [7, 42] (fun t k wr => ∃ n t', wr = w1.drewN n ∧ t = .float .f64 t' ∧ ((k = .int .i64 0 ∧ t' = tW t0 0) ∨ (k = .int .i64 1 ∧ t' = tW t0 1) ∨ (k = .int .i64 2 ∧ t' = tW t0 2) ∨ (k = .int .i64 3 ∧ t' = tW t0 3))) (fun _ k _ => 3 - (intOf k).toNat)
        case atStart => exact ⟨_, _, (by first | rfl | simp only [World.drewN_drewN]), rfl, .inl ⟨rfl, rfl⟩⟩
        case round =>
          obtain ⟨n, t, rfl, rfl, hk⟩ := hrel
          rcases hk with ⟨rfl, ht⟩ | ⟨rfl, ht⟩ | ⟨rfl, ht⟩ | ⟨rfl, ht⟩
          · obtain ⟨a1, b1, s1, d1, e1, h1, h2, h3, h4, h5, h6⟩ := t_round (tW_in I1.out 0)
            rw [← ht] at h1 h5
            have H6 := Lib.hid (show e1 = tW t0 1 from h6); clear h6 ht
            go_wp2_with fail
            refine (math_Sqrt _ _).mono ?_
            rintro e w' ⟨rfl, rfl⟩
            go_wp2
            go_roundw
            case rel => exact ⟨_, _, (by first | rfl | simp only [World.drewN_drewN]), rfl, (.inr (.inl ⟨rfl, H6.out⟩))⟩
            case measure => simp [intOf]
          · obtain ⟨a1, b1, s1, d1, e1, h1, h2, h3, h4, h5, h6⟩ := t_round (tW_in I1.out 1)
            rw [← ht] at h1 h5
            have H6 := Lib.hid (show e1 = tW t0 2 from h6); clear h6 ht
            go_wp2_with fail
            refine (math_Sqrt _ _).mono ?_
            rintro e w' ⟨rfl, rfl⟩
            go_wp2
            go_roundw
            case rel => exact ⟨_, _, (by first | rfl | simp only [World.drewN_drewN]), rfl, (.inr (.inr (.inl ⟨rfl, H6.out⟩)))⟩
            case measure => simp [intOf]
          · obtain ⟨a1, b1, s1, d1, e1, h1, h2, h3, h4, h5, h6⟩ := t_round (tW_in I1.out 2)
            rw [← ht] at h1 h5
            have H6 := Lib.hid (show e1 = tW t0 3 from h6); clear h6 ht
            go_wp2_with fail
            refine (math_Sqrt _ _).mono ?_
            rintro e w' ⟨rfl, rfl⟩
            go_wp2
            go_roundw
            case rel => exact ⟨_, _, (by first | rfl | simp only [World.drewN_drewN]), rfl, (.inr (.inr (.inr (⟨rfl, H6.out⟩))))⟩
            case measure => simp [intOf]
          · have IT := Lib.hid (show In (some t) 0 4 by rw [ht]; exact tW_in I1.out 3)
            obtain ⟨ku, _⟩ := tt_in IT.out
            have IU := Lib.hid (tt_in IT.out).2
            obtain ⟨kA1, _⟩ := anA_in IT.out
            obtain ⟨kB1, _⟩ := anB_in IT.out
            obtain ⟨kC1, iC⟩ := anC_in IT.out
            have IC := Lib.hid iC; clear iC
            have HT : Hid (angW (tr .f32 .f64 y) (tr .f32 .f64 x) = an3 (FloatKind.f64.format.order (tr .f32 .f64 y) 0 == some .lt) (an2 (FloatKind.f64.format.order (tr .f32 .f64 x) 0 == some .lt) (an1 (angO (tr .f32 .f64 y) (tr .f32 .f64 x)) (anC t)))) := Lib.hid (by rw [HW.out, ht])
            clear ht
            generalize anC t = cC at *
            generalize anB t = cB at *
            generalize anA t = cA at *
            generalize tt t = u at *
            go_wp2_with fail
            go_loopw [9, 10] (fun p k wr => ∃ n p', wr = w1.drewN n ∧ p = .float .f64 p' ∧ ((k = .float .f64 (kA 0) ∧ p' = pA u 0) ∨ (k = .float .f64 (kA 1) ∧ p' = pA u 1) ∨ (k = .float .f64 (kA 2) ∧ p' = pA u 2) ∨ (k = .float .f64 (kA 3) ∧ p' = pA u 3) ∨ (k = .float .f64 (kA 4) ∧ p' = pA u 4) ∨ (k = .float .f64 (kA 5) ∧ p' = pA u 5) ∨ (k = .float .f64 (kA 6) ∧ p' = pA u 6) ∨ (k = .float .f64 (kA 7) ∧ p' = pA u 7) ∨ (k = .float .f64 (kA 8) ∧ p' = pA u 8))) (fun _ k _ => kAM k)
            case atStart => exact ⟨_, _, (by first | rfl | simp only [World.drewN_drewN]), rfl, .inl ⟨rfl, rfl⟩⟩
            case round =>
              obtain ⟨n, p, rfl, rfl, hk⟩ := hrel
              rcases hk with ⟨rfl, hp⟩ | ⟨rfl, hp⟩ | ⟨rfl, hp⟩ | ⟨rfl, hp⟩ | ⟨rfl, hp⟩ | ⟨rfl, hp⟩ | ⟨rfl, hp⟩ | ⟨rfl, hp⟩ | ⟨rfl, hp⟩
              · obtain ⟨r, m, p', k, k', h1, h2, h3, h4, h5, h6, h7, h8, h9⟩ := pA_round IU.out 0 (by omega)
                rw [← hp] at h4
                have H6 := Lib.hid h6; have H8 := Lib.hid h8; clear h6 h8 hp
                rw [← h1]
                have H1 := Lib.hid h1
                clear h1 h2 kA1 kB1 kC1 ku
                go_wp2
                go_roundw
                case rel => exact ⟨_, _, (by first | rfl | simp only [World.drewN_drewN]), rfl, (.inr (.inl ⟨by rw [H8.out], H6.out⟩))⟩
                case measure => rw [H1.out, H8.out]; decide
              · obtain ⟨r, m, p', k, k', h1, h2, h3, h4, h5, h6, h7, h8, h9⟩ := pA_round IU.out 1 (by omega)
                rw [← hp] at h4
                have H6 := Lib.hid h6; have H8 := Lib.hid h8; clear h6 h8 hp
                rw [← h1]
                have H1 := Lib.hid h1
                clear h1 h2 kA1 kB1 kC1 ku
                go_wp2
                go_roundw
                case rel => exact ⟨_, _, (by first | rfl | simp only [World.drewN_drewN]), rfl, (.inr (.inr (.inl ⟨by rw [H8.out], H6.out⟩)))⟩
                case measure => rw [H1.out, H8.out]; decide
              · obtain ⟨r, m, p', k, k', h1, h2, h3, h4, h5, h6, h7, h8, h9⟩ := pA_round IU.out 2 (by omega)
                rw [← hp] at h4
                have H6 := Lib.hid h6; have H8 := Lib.hid h8; clear h6 h8 hp
                rw [← h1]
                have H1 := Lib.hid h1
                clear h1 h2 kA1 kB1 kC1 ku
                go_wp2
                go_roundw
                case rel => exact ⟨_, _, (by first | rfl | simp only [World.drewN_drewN]), rfl, (.inr (.inr (.inr (.inl ⟨by rw [H8.out], H6.out⟩))))⟩
                case measure => rw [H1.out, H8.out]; decide
              · obtain ⟨r, m, p', k, k', h1, h2, h3, h4, h5, h6, h7, h8, h9⟩ := pA_round IU.out 3 (by omega)
                rw [← hp] at h4
                have H6 := Lib.hid h6; have H8 := Lib.hid h8; clear h6 h8 hp
                rw [← h1]
                have H1 := Lib.hid h1
                clear h1 h2 kA1 kB1 kC1 ku
                go_wp2
                go_roundw
                case rel => exact ⟨_, _, (by first | rfl | simp only [World.drewN_drewN]), rfl, (.inr (.inr (.inr (.inr (.inl ⟨by rw [H8.out], H6.out⟩)))))⟩
                case measure => rw [H1.out, H8.out]; decide
              · obtain ⟨r, m, p', k, k', h1, h2, h3, h4, h5, h6, h7, h8, h9⟩ := pA_round IU.out 4 (by omega)
                rw [← hp] at h4
                have H6 := Lib.hid h6; have H8 := Lib.hid h8; clear h6 h8 hp
                rw [← h1]
                have H1 := Lib.hid h1
                clear h1 h2 kA1 kB1 kC1 ku
                go_wp2
                go_roundw
                case rel => exact ⟨_, _, (by first | rfl | simp only [World.drewN_drewN]), rfl, (.inr (.inr (.inr (.inr (.inr (.inl ⟨by rw [H8.out], H6.out⟩))))))⟩
                case measure => rw [H1.out, H8.out]; decide
              · obtain ⟨r, m, p', k, k', h1, h2, h3, h4, h5, h6, h7, h8, h9⟩ := pA_round IU.out 5 (by omega)
                rw [← hp] at h4
                have H6 := Lib.hid h6; have H8 := Lib.hid h8; clear h6 h8 hp
                rw [← h1]
                have H1 := Lib.hid h1
                clear h1 h2 kA1 kB1 kC1 ku
                go_wp2
                go_roundw
                case rel => exact ⟨_, _, (by first | rfl | simp only [World.drewN_drewN]), rfl, (.inr (.inr (.inr (.inr (.inr (.inr (.inl ⟨by rw [H8.out], H6.out⟩)))))))⟩
                case measure => rw [H1.out, H8.out]; decide
              · obtain ⟨r, m, p', k, k', h1, h2, h3, h4, h5, h6, h7, h8, h9⟩ := pA_round IU.out 6 (by omega)
                rw [← hp] at h4
                have H6 := Lib.hid h6; have H8 := Lib.hid h8; clear h6 h8 hp
                rw [← h1]
                have H1 := Lib.hid h1
                clear h1 h2 kA1 kB1 kC1 ku
                go_wp2
                go_roundw
                case rel => exact ⟨_, _, (by first | rfl | simp only [World.drewN_drewN]), rfl, (.inr (.inr (.inr (.inr (.inr (.inr (.inr (.inl ⟨by rw [H8.out], H6.out⟩))))))))⟩
                case measure => rw [H1.out, H8.out]; decide
              · obtain ⟨r, m, p', k, k', h1, h2, h3, h4, h5, h6, h7, h8, h9⟩ := pA_round IU.out 7 (by omega)
                rw [← hp] at h4
                have H6 := Lib.hid h6; have H8 := Lib.hid h8; clear h6 h8 hp
                rw [← h1]
                have H1 := Lib.hid h1
                clear h1 h2 kA1 kB1 kC1 ku
                go_wp2
                go_roundw
                case rel => exact ⟨_, _, (by first | rfl | simp only [World.drewN_drewN]), rfl, (.inr (.inr (.inr (.inr (.inr (.inr (.inr (.inr (⟨by rw [H8.out], H6.out⟩)))))))))⟩
                case measure => rw [H1.out, H8.out]; decide
              · rw [← hp] at kA1
                clear hp ku
                have hm := kA_end
                generalize kA 8 = kk at *
                have hO : angO (tr .f32 .f64 y) (tr .f32 .f64 x) = true := c1
                obtain ⟨f1, g1⟩ := an1_in true IC.out
                have f1 := f1 rfl
                have HT2 : Hid (angW (tr .f32 .f64 y) (tr .f32 .f64 x) = an3 (FloatKind.f64.format.order (tr .f32 .f64 y) 0 == some .lt) (an2 (FloatKind.f64.format.order (tr .f32 .f64 x) 0 == some .lt) (opw .sub 0x3FD0000000000000 cC))) := Lib.hid (by rw [HT.out, hO]; rfl)
                have G1 : Hid (In (some (opw .sub 0x3FD0000000000000 cC)) (-42) 42) := Lib.hid g1
                clear g1 hO HT IC
                generalize opw .sub 0x3FD0000000000000 cC = v1 at *
                cases xl : (FloatKind.f32.format.order x 0 == some .lt)
                · have HT3 : Hid (angW (tr .f32 .f64 y) (tr .f32 .f64 x) = an3 (FloatKind.f64.format.order (tr .f32 .f64 y) 0 == some .lt) v1) := Lib.hid (by rw [HT2.out, order0_wide HX.out, xl]; rfl)
                  have G2 : Hid (In (some v1) (-44) 44) := Lib.hid (an2_in false G1.out).2
                  clear HT2 G1
                  cases yl : (FloatKind.f32.format.order y 0 == some .lt)
                  · have HT4 : Hid (angW (tr .f32 .f64 y) (tr .f32 .f64 x) = v1) := Lib.hid (by rw [HT3.out, order0_wide HY.out, yl]; rfl)
                    go_wp2
                    go_ret
                    exact .mk' (by rw [narrow_in (show In (some v1) (-44) 44 from (an3_in false G2.out)) (by omega) (by omega) _, HT4.out]) (by first | exact below_dn HB1.out _ | (simp only [World.drewN_drewN]; exact below_dn HB1.out _))
                  · have HT4 : Hid (angW (tr .f32 .f64 y) (tr .f32 .f64 x) = Op.negFloat .f64 v1) := Lib.hid (by rw [HT3.out, order0_wide HY.out, yl]; rfl)
                    go_wp2
                    go_ret
                    exact .mk' (by rw [narrow_in (show In (some (Op.negFloat .f64 v1)) (-44) 44 from (an3_in true G2.out)) (by omega) (by omega) _, HT4.out]) (by first | exact below_dn HB1.out _ | (simp only [World.drewN_drewN]; exact below_dn HB1.out _))
                · obtain ⟨f2, g2⟩ := an2_in true G1.out
                  have f2 := f2 rfl
                  have HT3 : Hid (angW (tr .f32 .f64 y) (tr .f32 .f64 x) = an3 (FloatKind.f64.format.order (tr .f32 .f64 y) 0 == some .lt) (opw .sub 0x3FE0000000000000 v1)) := Lib.hid (by rw [HT2.out, order0_wide HX.out, xl]; rfl)
                  have G2 : Hid (In (some (opw .sub 0x3FE0000000000000 v1)) (-44) 44) := Lib.hid g2
                  clear g2 HT2 G1
                  generalize opw .sub 0x3FE0000000000000 v1 = v2 at *
                  cases yl : (FloatKind.f32.format.order y 0 == some .lt)
                  · have HT4 : Hid (angW (tr .f32 .f64 y) (tr .f32 .f64 x) = v2) := Lib.hid (by rw [HT3.out, order0_wide HY.out, yl]; rfl)
                    go_wp2
                    go_ret
                    exact .mk' (by rw [narrow_in (show In (some v2) (-44) 44 from (an3_in false G2.out)) (by omega) (by omega) _, HT4.out]) (by first | exact below_dn HB1.out _ | (simp only [World.drewN_drewN]; exact below_dn HB1.out _))
                  · have HT4 : Hid (angW (tr .f32 .f64 y) (tr .f32 .f64 x) = Op.negFloat .f64 v2) := Lib.hid (by rw [HT3.out, order0_wide HY.out, yl]; rfl)
                    go_wp2
                    go_ret
                    exact .mk' (by rw [narrow_in (show In (some (Op.negFloat .f64 v2)) (-44) 44 from (an3_in true G2.out)) (by omega) (by omega) _, HT4.out]) (by first | exact below_dn HB1.out _ | (simp only [World.drewN_drewN]; exact below_dn HB1.out _))
      · replace c2 := zero32 HX.out c2
        replace c3 := zero32 HY.out c3
        go_enter Tryz.func34, Tryz.ntmps34
        go_wp2_with fail
        refine (impl_areFinite _ _ [x, y] (two_FS _ _ _)).mono ?_
        rintro e w1 ⟨rfl, n1, hw1⟩
        rw [HF.out]
        have HB1 : Hid (Below w.heap.size w w1) := Lib.hid (by rw [hw1]; exact below_dn ((Below.refl _ _).alloc (Nat.le_refl _) _) _)
        clear hw1
        go_wp2_with fail
        refine (math_Abs _ HLY.out _).mono ?_
        rintro e w' ⟨rfl, n, rfl⟩
        go_wp2_with fail
        refine (math_Abs _ HLX.out _).mono ?_
        rintro e w' ⟨rfl, n2, rfl⟩
        go_wp2_with fail
        go_loopw [7, 42] (fun t k wr => ∃ n t', wr = w1.drewN n ∧ t = .float .f64 t' ∧ ((k = .int .i64 0 ∧ t' = tW t0 0) ∨ (k = .int .i64 1 ∧ t' = tW t0 1) ∨ (k = .int .i64 2 ∧ t' = tW t0 2) ∨ (k = .int .i64 3 ∧ t' = tW t0 3))) (fun _ k _ => 3 - (intOf k).toNat)
        case atStart => exact ⟨_, _, (by first | rfl | simp only [World.drewN_drewN]), rfl, .inl ⟨rfl, rfl⟩⟩
        case round =>
          obtain ⟨n, t, rfl, rfl, hk⟩ := hrel
          rcases hk with ⟨rfl, ht⟩ | ⟨rfl, ht⟩ | ⟨rfl, ht⟩ | ⟨rfl, ht⟩
          · obtain ⟨a1, b1, s1, d1, e1, h1, h2, h3, h4, h5, h6⟩ := t_round (tW_in I1.out 0)
            rw [← ht] at h1 h5
            have H6 := Lib.hid (show e1 = tW t0 1 from h6); clear h6 ht
            go_wp2_with fail
            refine (math_Sqrt _ _).mono ?_
            rintro e w' ⟨rfl, rfl⟩
            go_wp2
            go_roundw
            case rel => exact ⟨_, _, (by first | rfl | simp only [World.drewN_drewN]), rfl, (.inr (.inl ⟨rfl, H6.out⟩))⟩
            case measure => simp [intOf]
          · obtain ⟨a1, b1, s1, d1, e1, h1, h2, h3, h4, h5, h6⟩ := t_round (tW_in I1.out 1)
            rw [← ht] at h1 h5
            have H6 := Lib.hid (show e1 = tW t0 2 from h6); clear h6 ht
            go_wp2_with fail
            refine (math_Sqrt _ _).mono ?_
            rintro e w' ⟨rfl, rfl⟩
            go_wp2
            go_roundw
            case rel => exact ⟨_, _, (by first | rfl | simp only [World.drewN_drewN]), rfl, (.inr (.inr (.inl ⟨rfl, H6.out⟩)))⟩
            case measure => simp [intOf]
          · obtain ⟨a1, b1, s1, d1, e1, h1, h2, h3, h4, h5, h6⟩ := t_round (tW_in I1.out 2)
            rw [← ht] at h1 h5
            have H6 := Lib.hid (show e1 = tW t0 3 from h6); clear h6 ht
            go_wp2_with fail
            refine (math_Sqrt _ _).mono ?_
            rintro e w' ⟨rfl, rfl⟩
            go_wp2
            go_roundw
            case rel => exact ⟨_, _, (by first | rfl | simp only [World.drewN_drewN]), rfl, (.inr (.inr (.inr (⟨rfl, H6.out⟩))))⟩
            case measure => simp [intOf]
          · have IT := Lib.hid (show In (some t) 0 4 by rw [ht]; exact tW_in I1.out 3)
            obtain ⟨ku, _⟩ := tt_in IT.out
            have IU := Lib.hid (tt_in IT.out).2
            obtain ⟨kA1, _⟩ := anA_in IT.out
            obtain ⟨kB1, _⟩ := anB_in IT.out
            obtain ⟨kC1, iC⟩ := anC_in IT.out
            have IC := Lib.hid iC; clear iC
            have HT : Hid (angW (tr .f32 .f64 y) (tr .f32 .f64 x) = an3 (FloatKind.f64.format.order (tr .f32 .f64 y) 0 == some .lt) (an2 (FloatKind.f64.format.order (tr .f32 .f64 x) 0 == some .lt) (an1 (angO (tr .f32 .f64 y) (tr .f32 .f64 x)) (anC t)))) := Lib.hid (by rw [HW.out, ht])
            clear ht
            generalize anC t = cC at *
            generalize anB t = cB at *
            generalize anA t = cA at *
            generalize tt t = u at *
            go_wp2_with fail
            go_loopw [9, 10] (fun p k wr => ∃ n p', wr = w1.drewN n ∧ p = .float .f64 p' ∧ ((k = .float .f64 (kA 0) ∧ p' = pA u 0) ∨ (k = .float .f64 (kA 1) ∧ p' = pA u 1) ∨ (k = .float .f64 (kA 2) ∧ p' = pA u 2) ∨ (k = .float .f64 (kA 3) ∧ p' = pA u 3) ∨ (k = .float .f64 (kA 4) ∧ p' = pA u 4) ∨ (k = .float .f64 (kA 5) ∧ p' = pA u 5) ∨ (k = .float .f64 (kA 6) ∧ p' = pA u 6) ∨ (k = .float .f64 (kA 7) ∧ p' = pA u 7) ∨ (k = .float .f64 (kA 8) ∧ p' = pA u 8))) (fun _ k _ => kAM k)
            case atStart => exact ⟨_, _, (by first | rfl | simp only [World.drewN_drewN]), rfl, .inl ⟨rfl, rfl⟩⟩
            case round =>
              obtain ⟨n, p, rfl, rfl, hk⟩ := hrel
              rcases hk with ⟨rfl, hp⟩ | ⟨rfl, hp⟩ | ⟨rfl, hp⟩ | ⟨rfl, hp⟩ | ⟨rfl, hp⟩ | ⟨rfl, hp⟩ | ⟨rfl, hp⟩ | ⟨rfl, hp⟩ | ⟨rfl, hp⟩
              · obtain ⟨r, m, p', k, k', h1, h2, h3, h4, h5, h6, h7, h8, h9⟩ := pA_round IU.out 0 (by omega)
                rw [← hp] at h4
                have H6 := Lib.hid h6; have H8 := Lib.hid h8; clear h6 h8 hp
                rw [← h1]
                have H1 := Lib.hid h1
                clear h1 h2 kA1 kB1 kC1 ku
                go_wp2
                go_roundw
                case rel => exact ⟨_, _, (by first | rfl | simp only [World.drewN_drewN]), rfl, (.inr (.inl ⟨by rw [H8.out], H6.out⟩))⟩
                case measure => rw [H1.out, H8.out]; decide
              · obtain ⟨r, m, p', k, k', h1, h2, h3, h4, h5, h6, h7, h8, h9⟩ := pA_round IU.out 1 (by omega)
                rw [← hp] at h4
                have H6 := Lib.hid h6; have H8 := Lib.hid h8; clear h6 h8 hp
                rw [← h1]
                have H1 := Lib.hid h1
                clear h1 h2 kA1 kB1 kC1 ku
                go_wp2
                go_roundw
                case rel => exact ⟨_, _, (by first | rfl | simp only [World.drewN_drewN]), rfl, (.inr (.inr (.inl ⟨by rw [H8.out], H6.out⟩)))⟩
                case measure => rw [H1.out, H8.out]; decide
              · obtain ⟨r, m, p', k, k', h1, h2, h3, h4, h5, h6, h7, h8, h9⟩ := pA_round IU.out 2 (by omega)
                rw [← hp] at h4
                have H6 := Lib.hid h6; have H8 := Lib.hid h8; clear h6 h8 hp
                rw [← h1]
                have H1 := Lib.hid h1
                clear h1 h2 kA1 kB1 kC1 ku
                go_wp2
                go_roundw
                case rel => exact ⟨_, _, (by first | rfl | simp only [World.drewN_drewN]), rfl, (.inr (.inr (.inr (.inl ⟨by rw [H8.out], H6.out⟩))))⟩
                case measure => rw [H1.out, H8.out]; decide
              · obtain ⟨r, m, p', k, k', h1, h2, h3, h4, h5, h6, h7, h8, h9⟩ := pA_round IU.out 3 (by omega)
                rw [← hp] at h4
                have H6 := Lib.hid h6; have H8 := Lib.hid h8; clear h6 h8 hp
                rw [← h1]
                have H1 := Lib.hid h1
                clear h1 h2 kA1 kB1 kC1 ku
                go_wp2
                go_roundw
                case rel => exact ⟨_, _, (by first | rfl | simp only [World.drewN_drewN]), rfl, (.inr (.inr (.inr (.inr (.inl ⟨by rw [H8.out], H6.out⟩)))))⟩
                case measure => rw [H1.out, H8.out]; decide
              · obtain ⟨r, m, p', k, k', h1, h2, h3, h4, h5, h6, h7, h8, h9⟩ := pA_round IU.out 4 (by omega)
                rw [← hp] at h4
                have H6 := Lib.hid h6; have H8 := Lib.hid h8; clear h6 h8 hp
                rw [← h1]
                have H1 := Lib.hid h1
                clear h1 h2 kA1 kB1 kC1 ku
                go_wp2
                go_roundw
                case rel => exact ⟨_, _, (by first | rfl | simp only [World.drewN_drewN]), rfl, (.inr (.inr (.inr (.inr (.inr (.inl ⟨by rw [H8.out], H6.out⟩))))))⟩
                case measure => rw [H1.out, H8.out]; decide
              · obtain ⟨r, m, p', k, k', h1, h2, h3, h4, h5, h6, h7, h8, h9⟩ := pA_round IU.out 5 (by omega)
                rw [← hp] at h4
                have H6 := Lib.hid h6; have H8 := Lib.hid h8; clear h6 h8 hp
                rw [← h1]
                have H1 := Lib.hid h1
                clear h1 h2 kA1 kB1 kC1 ku
                go_wp2
                go_roundw
                case rel => exact ⟨_, _, (by first | rfl | simp only [World.drewN_drewN]), rfl, (.inr (.inr (.inr (.inr (.inr (.inr (.inl ⟨by rw [H8.out], H6.out⟩)))))))⟩
                case measure => rw [H1.out, H8.out]; decide
              · obtain ⟨r, m, p', k, k', h1, h2, h3, h4, h5, h6, h7, h8, h9⟩ := pA_round IU.out 6 (by omega)
                rw [← hp] at h4
                have H6 := Lib.hid h6; have H8 := Lib.hid h8; clear h6 h8 hp
                rw [← h1]
                have H1 := Lib.hid h1
                clear h1 h2 kA1 kB1 kC1 ku
                go_wp2
                go_roundw
                case rel => exact ⟨_, _, (by first | rfl | simp only [World.drewN_drewN]), rfl, (.inr (.inr (.inr (.inr (.inr (.inr (.inr (.inl ⟨by rw [H8.out], H6.out⟩))))))))⟩
                case measure => rw [H1.out, H8.out]; decide
              · obtain ⟨r, m, p', k, k', h1, h2, h3, h4, h5, h6, h7, h8, h9⟩ := pA_round IU.out 7 (by omega)
                rw [← hp] at h4
                have H6 := Lib.hid h6; have H8 := Lib.hid h8; clear h6 h8 hp
                rw [← h1]
                have H1 := Lib.hid h1
                clear h1 h2 kA1 kB1 kC1 ku
                go_wp2
                go_roundw
                case rel => exact ⟨_, _, (by first | rfl | simp only [World.drewN_drewN]), rfl, (.inr (.inr (.inr (.inr (.inr (.inr (.inr (.inr (⟨by rw [H8.out], H6.out⟩)))))))))⟩
                case measure => rw [H1.out, H8.out]; decide
              · rw [← hp] at kA1
                clear hp ku
                have hm := kA_end
                generalize kA 8 = kk at *
                have hO : angO (tr .f32 .f64 y) (tr .f32 .f64 x) = true := c1
                obtain ⟨f1, g1⟩ := an1_in true IC.out
                have f1 := f1 rfl
                have HT2 : Hid (angW (tr .f32 .f64 y) (tr .f32 .f64 x) = an3 (FloatKind.f64.format.order (tr .f32 .f64 y) 0 == some .lt) (an2 (FloatKind.f64.format.order (tr .f32 .f64 x) 0 == some .lt) (opw .sub 0x3FD0000000000000 cC))) := Lib.hid (by rw [HT.out, hO]; rfl)
                have G1 : Hid (In (some (opw .sub 0x3FD0000000000000 cC)) (-42) 42) := Lib.hid g1
                clear g1 hO HT IC
                generalize opw .sub 0x3FD0000000000000 cC = v1 at *
                cases xl : (FloatKind.f32.format.order x 0 == some .lt)
                · have HT3 : Hid (angW (tr .f32 .f64 y) (tr .f32 .f64 x) = an3 (FloatKind.f64.format.order (tr .f32 .f64 y) 0 == some .lt) v1) := Lib.hid (by rw [HT2.out, order0_wide HX.out, xl]; rfl)
                  have G2 : Hid (In (some v1) (-44) 44) := Lib.hid (an2_in false G1.out).2
                  clear HT2 G1
                  cases yl : (FloatKind.f32.format.order y 0 == some .lt)
                  · have HT4 : Hid (angW (tr .f32 .f64 y) (tr .f32 .f64 x) = v1) := Lib.hid (by rw [HT3.out, order0_wide HY.out, yl]; rfl)
                    go_wp2
                    go_ret
                    exact .mk' (by rw [narrow_in (show In (some v1) (-44) 44 from (an3_in false G2.out)) (by omega) (by omega) _, HT4.out]) (by first | exact below_dn HB1.out _ | (simp only [World.drewN_drewN]; exact below_dn HB1.out _))
                  · have HT4 : Hid (angW (tr .f32 .f64 y) (tr .f32 .f64 x) = Op.negFloat .f64 v1) := Lib.hid (by rw [HT3.out, order0_wide HY.out, yl]; rfl)
                    go_wp2
                    go_ret
                    exact .mk' (by rw [narrow_in (show In (some (Op.negFloat .f64 v1)) (-44) 44 from (an3_in true G2.out)) (by omega) (by omega) _, HT4.out]) (by first | exact below_dn HB1.out _ | (simp only [World.drewN_drewN]; exact below_dn HB1.out _))
                · obtain ⟨f2, g2⟩ := an2_in true G1.out
                  have f2 := f2 rfl
                  have HT3 : Hid (angW (tr .f32 .f64 y) (tr .f32 .f64 x) = an3 (FloatKind.f64.format.order (tr .f32 .f64 y) 0 == some .lt) (opw .sub 0x3FE0000000000000 v1)) := Lib.hid (by rw [HT2.out, order0_wide HX.out, xl]; rfl)
                  have G2 : Hid (In (some (opw .sub 0x3FE0000000000000 v1)) (-44) 44) := Lib.hid g2
                  clear g2 HT2 G1
                  generalize opw .sub 0x3FE0000000000000 v1 = v2 at *
                  cases yl : (FloatKind.f32.format.order y 0 == some .lt)
                  · have HT4 : Hid (angW (tr .f32 .f64 y) (tr .f32 .f64 x) = v2) := Lib.hid (by rw [HT3.out, order0_wide HY.out, yl]; rfl)
                    go_wp2
                    go_ret
                    exact .mk' (by rw [narrow_in (show In (some v2) (-44) 44 from (an3_in false G2.out)) (by omega) (by omega) _, HT4.out]) (by first | exact below_dn HB1.out _ | (simp only [World.drewN_drewN]; exact below_dn HB1.out _))
                  · have HT4 : Hid (angW (tr .f32 .f64 y) (tr .f32 .f64 x) = Op.negFloat .f64 v2) := Lib.hid (by rw [HT3.out, order0_wide HY.out, yl]; rfl)
                    go_wp2
                    go_ret
                    exact .mk' (by rw [narrow_in (show In (some (Op.negFloat .f64 v2)) (-44) 44 from (an3_in true G2.out)) (by omega) (by omega) _, HT4.out]) (by first | exact below_dn HB1.out _ | (simp only [World.drewN_drewN]; exact below_dn HB1.out _))
      · replace c2 := zero32 HX.out c2
        go_enter Tryz.func34, Tryz.ntmps34
        go_wp2_with fail
        refine (impl_areFinite _ _ [x, y] (two_FS _ _ _)).mono ?_
        rintro e w1 ⟨rfl, n1, hw1⟩
        rw [HF.out]
        have HB1 : Hid (Below w.heap.size w w1) := Lib.hid (by rw [hw1]; exact below_dn ((Below.refl _ _).alloc (Nat.le_refl _) _) _)
        clear hw1
        go_wp2_with fail
        refine (math_Abs _ HLY.out _).mono ?_
        rintro e w' ⟨rfl, n, rfl⟩
        go_wp2_with fail
        refine (math_Abs _ HLX.out _).mono ?_
        rintro e w' ⟨rfl, n2, rfl⟩
        go_wp2_with fail
        go_loopw [7, 42] (fun t k wr => ∃ n t', wr = w1.drewN n ∧ t = .float .f64 t' ∧ ((k = .int .i64 0 ∧ t' = tW t0 0) ∨ (k = .int .i64 1 ∧ t' = tW t0 1) ∨ (k = .int .i64 2 ∧ t' = tW t0 2) ∨ (k = .int .i64 3 ∧ t' = tW t0 3))) (fun _ k _ => 3 - (intOf k).toNat)
        case atStart => exact ⟨_, _, (by first | rfl | simp only [World.drewN_drewN]), rfl, .inl ⟨rfl, rfl⟩⟩
        case round =>
          obtain ⟨n, t, rfl, rfl, hk⟩ := hrel
          rcases hk with ⟨rfl, ht⟩ | ⟨rfl, ht⟩ | ⟨rfl, ht⟩ | ⟨rfl, ht⟩
          · obtain ⟨a1, b1, s1, d1, e1, h1, h2, h3, h4, h5, h6⟩ := t_round (tW_in I1.out 0)
            rw [← ht] at h1 h5
            have H6 := Lib.hid (show e1 = tW t0 1 from h6); clear h6 ht
            go_wp2_with fail
            refine (math_Sqrt _ _).mono ?_
            rintro e w' ⟨rfl, rfl⟩
            go_wp2
            go_roundw
            case rel => exact ⟨_, _, (by first | rfl | simp only [World.drewN_drewN]), rfl, (.inr (.inl ⟨rfl, H6.out⟩))⟩
            case measure => simp [intOf]
          · obtain ⟨a1, b1, s1, d1, e1, h1, h2, h3, h4, h5, h6⟩ := t_round (tW_in I1.out 1)
            rw [← ht] at h1 h5
            have H6 := Lib.hid (show e1 = tW t0 2 from h6); clear h6 ht
            go_wp2_with fail
            refine (math_Sqrt _ _).mono ?_
            rintro e w' ⟨rfl, rfl⟩
            go_wp2
            go_roundw
            case rel => exact ⟨_, _, (by first | rfl | simp only [World.drewN_drewN]), rfl, (.inr (.inr (.inl ⟨rfl, H6.out⟩)))⟩
            case measure => simp [intOf]
          · obtain ⟨a1, b1, s1, d1, e1, h1, h2, h3, h4, h5, h6⟩ := t_round (tW_in I1.out 2)
            rw [← ht] at h1 h5
            have H6 := Lib.hid (show e1 = tW t0 3 from h6); clear h6 ht
            go_wp2_with fail
            refine (math_Sqrt _ _).mono ?_
            rintro e w' ⟨rfl, rfl⟩
            go_wp2
            go_roundw
            case rel => exact ⟨_, _, (by first | rfl | simp only [World.drewN_drewN]), rfl, (.inr (.inr (.inr (⟨rfl, H6.out⟩))))⟩
            case measure => simp [intOf]
          · have IT := Lib.hid (show In (some t) 0 4 by rw [ht]; exact tW_in I1.out 3)
            obtain ⟨ku, _⟩ := tt_in IT.out
            have IU := Lib.hid (tt_in IT.out).2
            obtain ⟨kA1, _⟩ := anA_in IT.out
            obtain ⟨kB1, _⟩ := anB_in IT.out
            obtain ⟨kC1, iC⟩ := anC_in IT.out
            have IC := Lib.hid iC; clear iC
            have HT : Hid (angW (tr .f32 .f64 y) (tr .f32 .f64 x) = an3 (FloatKind.f64.format.order (tr .f32 .f64 y) 0 == some .lt) (an2 (FloatKind.f64.format.order (tr .f32 .f64 x) 0 == some .lt) (an1 (angO (tr .f32 .f64 y) (tr .f32 .f64 x)) (anC t)))) := Lib.hid (by rw [HW.out, ht])
            clear ht
            generalize anC t = cC at *
            generalize anB t = cB at *
            generalize anA t = cA at *
            generalize tt t = u at *
            go_wp2_with fail
            go_loopw [9, 10] (fun p k wr => ∃ n p', wr = w1.drewN n ∧ p = .float .f64 p' ∧ ((k = .float .f64 (kA 0) ∧ p' = pA u 0) ∨ (k = .float .f64 (kA 1) ∧ p' = pA u 1) ∨ (k = .float .f64 (kA 2) ∧ p' = pA u 2) ∨ (k = .float .f64 (kA 3) ∧ p' = pA u 3) ∨ (k = .float .f64 (kA 4) ∧ p' = pA u 4) ∨ (k = .float .f64 (kA 5) ∧ p' = pA u 5) ∨ (k = .float .f64 (kA 6) ∧ p' = pA u 6) ∨ (k = .float .f64 (kA 7) ∧ p' = pA u 7) ∨ (k = .float .f64 (kA 8) ∧ p' = pA u 8))) (fun _ k _ => kAM k)
            case atStart => exact ⟨_, _, (by first | rfl | simp only [World.drewN_drewN]), rfl, .inl ⟨rfl, rfl⟩⟩
            case round =>
              obtain ⟨n, p, rfl, rfl, hk⟩ := hrel
              rcases hk with ⟨rfl, hp⟩ | ⟨rfl, hp⟩ | ⟨rfl, hp⟩ | ⟨rfl, hp⟩ | ⟨rfl, hp⟩ | ⟨rfl, hp⟩ | ⟨rfl, hp⟩ | ⟨rfl, hp⟩ | ⟨rfl, hp⟩
              · obtain ⟨r, m, p', k, k', h1, h2, h3, h4, h5, h6, h7, h8, h9⟩ := pA_round IU.out 0 (by omega)
                rw [← hp] at h4
                have H6 := Lib.hid h6; have H8 := Lib.hid h8; clear h6 h8 hp
                rw [← h1]
                have H1 := Lib.hid h1
                clear h1 h2 kA1 kB1 kC1 ku
                go_wp2
                go_roundw
                case rel => exact ⟨_, _, (by first | rfl | simp only [World.drewN_drewN]), rfl, (.inr (.inl ⟨by rw [H8.out], H6.out⟩))⟩
                case measure => rw [H1.out, H8.out]; decide
              · obtain ⟨r, m, p', k, k', h1, h2, h3, h4, h5, h6, h7, h8, h9⟩ := pA_round IU.out 1 (by omega)
                rw [← hp] at h4
                have H6 := Lib.hid h6; have H8 := Lib.hid h8; clear h6 h8 hp
                rw [← h1]
                have H1 := Lib.hid h1
                clear h1 h2 kA1 kB1 kC1 ku
                go_wp2
                go_roundw
                case rel => exact ⟨_, _, (by first | rfl | simp only [World.drewN_drewN]), rfl, (.inr (.inr (.inl ⟨by rw [H8.out], H6.out⟩)))⟩
                case measure => rw [H1.out, H8.out]; decide
              · obtain ⟨r, m, p', k, k', h1, h2, h3, h4, h5, h6, h7, h8, h9⟩ := pA_round IU.out 2 (by omega)
                rw [← hp] at h4
                have H6 := Lib.hid h6; have H8 := Lib.hid h8; clear h6 h8 hp
                rw [← h1]
                have H1 := Lib.hid h1
                clear h1 h2 kA1 kB1 kC1 ku
                go_wp2
                go_roundw
                case rel => exact ⟨_, _, (by first | rfl | simp only [World.drewN_drewN]), rfl, (.inr (.inr (.inr (.inl ⟨by rw [H8.out], H6.out⟩))))⟩
                case measure => rw [H1.out, H8.out]; decide
              · obtain ⟨r, m, p', k, k', h1, h2, h3, h4, h5, h6, h7, h8, h9⟩ := pA_round IU.out 3 (by omega)
                rw [← hp] at h4
                have H6 := Lib.hid h6; have H8 := Lib.hid h8; clear h6 h8 hp
                rw [← h1]
                have H1 := Lib.hid h1
                clear h1 h2 kA1 kB1 kC1 ku
                go_wp2
                go_roundw
                case rel => exact ⟨_, _, (by first | rfl | simp only [World.drewN_drewN]), rfl, (.inr (.inr (.inr (.inr (.inl ⟨by rw [H8.out], H6.out⟩)))))⟩
                case measure => rw [H1.out, H8.out]; decide
              · obtain ⟨r, m, p', k, k', h1, h2, h3, h4, h5, h6, h7, h8, h9⟩ := pA_round IU.out 4 (by omega)
                rw [← hp] at h4
                have H6 := Lib.hid h6; have H8 := Lib.hid h8; clear h6 h8 hp
                rw [← h1]
                have H1 := Lib.hid h1
                clear h1 h2 kA1 kB1 kC1 ku
                go_wp2
                go_roundw
                case rel => exact ⟨_, _, (by first | rfl | simp only [World.drewN_drewN]), rfl, (.inr (.inr (.inr (.inr (.inr (.inl ⟨by rw [H8.out], H6.out⟩))))))⟩
                case measure => rw [H1.out, H8.out]; decide
              · obtain ⟨r, m, p', k, k', h1, h2, h3, h4, h5, h6, h7, h8, h9⟩ := pA_round IU.out 5 (by omega)
                rw [← hp] at h4
                have H6 := Lib.hid h6; have H8 := Lib.hid h8; clear h6 h8 hp
                rw [← h1]
                have H1 := Lib.hid h1
                clear h1 h2 kA1 kB1 kC1 ku
                go_wp2
                go_roundw
                case rel => exact ⟨_, _, (by first | rfl | simp only [World.drewN_drewN]), rfl, (.inr (.inr (.inr (.inr (.inr (.inr (.inl ⟨by rw [H8.out], H6.out⟩)))))))⟩
                case measure => rw [H1.out, H8.out]; decide
              · obtain ⟨r, m, p', k, k', h1, h2, h3, h4, h5, h6, h7, h8, h9⟩ := pA_round IU.out 6 (by omega)
                rw [← hp] at h4
                have H6 := Lib.hid h6; have H8 := Lib.hid h8; clear h6 h8 hp
                rw [← h1]
                have H1 := Lib.hid h1
                clear h1 h2 kA1 kB1 kC1 ku
                go_wp2
                go_roundw
                case rel => exact ⟨_, _, (by first | rfl | simp only [World.drewN_drewN]), rfl, (.inr (.inr (.inr (.inr (.inr (.inr (.inr (.inl ⟨by rw [H8.out], H6.out⟩))))))))⟩
                case measure => rw [H1.out, H8.out]; decide
              · obtain ⟨r, m, p', k, k', h1, h2, h3, h4, h5, h6, h7, h8, h9⟩ := pA_round IU.out 7 (by omega)
                rw [← hp] at h4
                have H6 := Lib.hid h6; have H8 := Lib.hid h8; clear h6 h8 hp
                rw [← h1]
                have H1 := Lib.hid h1
                clear h1 h2 kA1 kB1 kC1 ku
                go_wp2
                go_roundw
                case rel => exact ⟨_, _, (by first | rfl | simp only [World.drewN_drewN]), rfl, (.inr (.inr (.inr (.inr (.inr (.inr (.inr (.inr (⟨by rw [H8.out], H6.out⟩)))))))))⟩
                case measure => rw [H1.out, H8.out]; decide
              · rw [← hp] at kA1
                clear hp ku
                have hm := kA_end
                generalize kA 8 = kk at *
                have hO : angO (tr .f32 .f64 y) (tr .f32 .f64 x) = false := c1
                have HT2 : Hid (angW (tr .f32 .f64 y) (tr .f32 .f64 x) = an3 (FloatKind.f64.format.order (tr .f32 .f64 y) 0 == some .lt) (an2 (FloatKind.f64.format.order (tr .f32 .f64 x) 0 == some .lt) cC)) := Lib.hid (by rw [HT.out, hO]; rfl)
                have G1 : Hid (In (some cC) (-42) 42) := Lib.hid (an1_in false IC.out).2
                clear hO HT IC
                cases xl : (FloatKind.f32.format.order x 0 == some .lt)
                · have HT3 : Hid (angW (tr .f32 .f64 y) (tr .f32 .f64 x) = an3 (FloatKind.f64.format.order (tr .f32 .f64 y) 0 == some .lt) cC) := Lib.hid (by rw [HT2.out, order0_wide HX.out, xl]; rfl)
                  have G2 : Hid (In (some cC) (-44) 44) := Lib.hid (an2_in false G1.out).2
                  clear HT2 G1
                  cases yl : (FloatKind.f32.format.order y 0 == some .lt)
                  · have HT4 : Hid (angW (tr .f32 .f64 y) (tr .f32 .f64 x) = cC) := Lib.hid (by rw [HT3.out, order0_wide HY.out, yl]; rfl)
                    go_wp2
                    go_ret
                    exact .mk' (by rw [narrow_in (show In (some cC) (-44) 44 from (an3_in false G2.out)) (by omega) (by omega) _, HT4.out]) (by first | exact below_dn HB1.out _ | (simp only [World.drewN_drewN]; exact below_dn HB1.out _))
                  · have HT4 : Hid (angW (tr .f32 .f64 y) (tr .f32 .f64 x) = Op.negFloat .f64 cC) := Lib.hid (by rw [HT3.out, order0_wide HY.out, yl]; rfl)
                    go_wp2
                    go_ret
                    exact .mk' (by rw [narrow_in (show In (some (Op.negFloat .f64 cC)) (-44) 44 from (an3_in true G2.out)) (by omega) (by omega) _, HT4.out]) (by first | exact below_dn HB1.out _ | (simp only [World.drewN_drewN]; exact below_dn HB1.out _))
                · obtain ⟨f2, g2⟩ := an2_in true G1.out
                  have f2 := f2 rfl
                  have HT3 : Hid (angW (tr .f32 .f64 y) (tr .f32 .f64 x) = an3 (FloatKind.f64.format.order (tr .f32 .f64 y) 0 == some .lt) (opw .sub 0x3FE0000000000000 cC)) := Lib.hid (by rw [HT2.out, order0_wide HX.out, xl]; rfl)
                  have G2 : Hid (In (some (opw .sub 0x3FE0000000000000 cC)) (-44) 44) := Lib.hid g2
                  clear g2 HT2 G1
                  generalize opw .sub 0x3FE0000000000000 cC = v2 at *
                  cases yl : (FloatKind.f32.format.order y 0 == some .lt)
                  · have HT4 : Hid (angW (tr .f32 .f64 y) (tr .f32 .f64 x) = v2) := Lib.hid (by rw [HT3.out, order0_wide HY.out, yl]; rfl)
                    go_wp2
                    go_ret
                    exact .mk' (by rw [narrow_in (show In (some v2) (-44) 44 from (an3_in false G2.out)) (by omega) (by omega) _, HT4.out]) (by first | exact below_dn HB1.out _ | (simp only [World.drewN_drewN]; exact below_dn HB1.out _))
                  · have HT4 : Hid (angW (tr .f32 .f64 y) (tr .f32 .f64 x) = Op.negFloat .f64 v2) := Lib.hid (by rw [HT3.out, order0_wide HY.out, yl]; rfl)
                    go_wp2
                    go_ret
                    exact .mk' (by rw [narrow_in (show In (some (Op.negFloat .f64 v2)) (-44) 44 from (an3_in true G2.out)) (by omega) (by omega) _, HT4.out]) (by first | exact below_dn HB1.out _ | (simp only [World.drewN_drewN]; exact below_dn HB1.out _))
      · replace c2 := zero32 HX.out c2
        replace c3 := zero32 HY.out c3
        go_enter Tryz.func34, Tryz.ntmps34
        go_wp2_with fail
        refine (impl_areFinite _ _ [x, y] (two_FS _ _ _)).mono ?_
        rintro e w1 ⟨rfl, n1, hw1⟩
        rw [HF.out]
        have HB1 : Hid (Below w.heap.size w w1) := Lib.hid (by rw [hw1]; exact below_dn ((Below.refl _ _).alloc (Nat.le_refl _) _) _)
        clear hw1
        go_wp2_with fail
        refine (math_Abs _ HLY.out _).mono ?_
        rintro e w' ⟨rfl, n, rfl⟩
        go_wp2_with fail
        refine (math_Abs _ HLX.out _).mono ?_
        rintro e w' ⟨rfl, n2, rfl⟩
        go_wp2_with fail
        go_loopw [7, 42] (fun t k wr => ∃ n t', wr = w1.drewN n ∧ t = .float .f64 t' ∧ ((k = .int .i64 0 ∧ t' = tW t0 0) ∨ (k = .int .i64 1 ∧ t' = tW t0 1) ∨ (k = .int .i64 2 ∧ t' = tW t0 2) ∨ (k = .int .i64 3 ∧ t' = tW t0 3))) (fun _ k _ => 3 - (intOf k).toNat)
        case atStart => exact ⟨_, _, (by first | rfl | simp only [World.drewN_drewN]), rfl, .inl ⟨rfl, rfl⟩⟩
        case round =>
          obtain ⟨n, t, rfl, rfl, hk⟩ := hrel
          rcases hk with ⟨rfl, ht⟩ | ⟨rfl, ht⟩ | ⟨rfl, ht⟩ | ⟨rfl, ht⟩
          · obtain ⟨a1, b1, s1, d1, e1, h1, h2, h3, h4, h5, h6⟩ := t_round (tW_in I1.out 0)
            rw [← ht] at h1 h5
            have H6 := Lib.hid (show e1 = tW t0 1 from h6); clear h6 ht
            go_wp2_with fail
            refine (math_Sqrt _ _).mono ?_
            rintro e w' ⟨rfl, rfl⟩
            go_wp2
            go_roundw
            case rel => exact ⟨_, _, (by first | rfl | simp only [World.drewN_drewN]), rfl, (.inr (.inl ⟨rfl, H6.out⟩))⟩
            case measure => simp [intOf]
          · obtain ⟨a1, b1, s1, d1, e1, h1, h2, h3, h4, h5, h6⟩ := t_round (tW_in I1.out 1)
            rw [← ht] at h1 h5
            have H6 := Lib.hid (show e1 = tW t0 2 from h6); clear h6 ht
            go_wp2_with fail
            refine (math_Sqrt _ _).mono ?_
            rintro e w' ⟨rfl, rfl⟩
            go_wp2
            go_roundw
            case rel => exact ⟨_, _, (by first | rfl | simp only [World.drewN_drewN]), rfl, (.inr (.inr (.inl ⟨rfl, H6.out⟩)))⟩
            case measure => simp [intOf]
          · obtain ⟨a1, b1, s1, d1, e1, h1, h2, h3, h4, h5, h6⟩ := t_round (tW_in I1.out 2)
            rw [← ht] at h1 h5
            have H6 := Lib.hid (show e1 = tW t0 3 from h6); clear h6 ht
            go_wp2_with fail
            refine (math_Sqrt _ _).mono ?_
            rintro e w' ⟨rfl, rfl⟩
            go_wp2
            go_roundw
            case rel => exact ⟨_, _, (by first | rfl | simp only [World.drewN_drewN]), rfl, (.inr (.inr (.inr (⟨rfl, H6.out⟩))))⟩
            case measure => simp [intOf]
          · have IT := Lib.hid (show In (some t) 0 4 by rw [ht]; exact tW_in I1.out 3)
            obtain ⟨ku, _⟩ := tt_in IT.out
            have IU := Lib.hid (tt_in IT.out).2
            obtain ⟨kA1, _⟩ := anA_in IT.out
            obtain ⟨kB1, _⟩ := anB_in IT.out
            obtain ⟨kC1, iC⟩ := anC_in IT.out
            have IC := Lib.hid iC; clear iC
            have HT : Hid (angW (tr .f32 .f64 y) (tr .f32 .f64 x) = an3 (FloatKind.f64.format.order (tr .f32 .f64 y) 0 == some .lt) (an2 (FloatKind.f64.format.order (tr .f32 .f64 x) 0 == some .lt) (an1 (angO (tr .f32 .f64 y) (tr .f32 .f64 x)) (anC t)))) := Lib.hid (by rw [HW.out, ht])
            clear ht
            generalize anC t = cC at *
            generalize anB t = cB at *
            generalize anA t = cA at *
            generalize tt t = u at *
            go_wp2_with fail
            go_loopw [9, 10] (fun p k wr => ∃ n p', wr = w1.drewN n ∧ p = .float .f64 p' ∧ ((k = .float .f64 (kA 0) ∧ p' = pA u 0) ∨ (k = .float .f64 (kA 1) ∧ p' = pA u 1) ∨ (k = .float .f64 (kA 2) ∧ p' = pA u 2) ∨ (k = .float .f64 (kA 3) ∧ p' = pA u 3) ∨ (k = .float .f64 (kA 4) ∧ p' = pA u 4) ∨ (k = .float .f64 (kA 5) ∧ p' = pA u 5) ∨ (k = .float .f64 (kA 6) ∧ p' = pA u 6) ∨ (k = .float .f64 (kA 7) ∧ p' = pA u 7) ∨ (k = .float .f64 (kA 8) ∧ p' = pA u 8))) (fun _ k _ => kAM k)
            case atStart => exact ⟨_, _, (by first | rfl | simp only [World.drewN_drewN]), rfl, .inl ⟨rfl, rfl⟩⟩
            case round =>
              obtain ⟨n, p, rfl, rfl, hk⟩ := hrel
              rcases hk with ⟨rfl, hp⟩ | ⟨rfl, hp⟩ | ⟨rfl, hp⟩ | ⟨rfl, hp⟩ | ⟨rfl, hp⟩ | ⟨rfl, hp⟩ | ⟨rfl, hp⟩ | ⟨rfl, hp⟩ | ⟨rfl, hp⟩
              · obtain ⟨r, m, p', k, k', h1, h2, h3, h4, h5, h6, h7, h8, h9⟩ := pA_round IU.out 0 (by omega)
                rw [← hp] at h4
                have H6 := Lib.hid h6; have H8 := Lib.hid h8; clear h6 h8 hp
                rw [← h1]
                have H1 := Lib.hid h1
                clear h1 h2 kA1 kB1 kC1 ku
                go_wp2
                go_roundw
                case rel => exact ⟨_, _, (by first | rfl | simp only [World.drewN_drewN]), rfl, (.inr (.inl ⟨by rw [H8.out], H6.out⟩))⟩
                case measure => rw [H1.out, H8.out]; decide
              · obtain ⟨r, m, p', k, k', h1, h2, h3, h4, h5, h6, h7, h8, h9⟩ := pA_round IU.out 1 (by omega)
                rw [← hp] at h4
                have H6 := Lib.hid h6; have H8 := Lib.hid h8; clear h6 h8 hp
                rw [← h1]
                have H1 := Lib.hid h1
                clear h1 h2 kA1 kB1 kC1 ku
                go_wp2
                go_roundw
                case rel => exact ⟨_, _, (by first | rfl | simp only [World.drewN_drewN]), rfl, (.inr (.inr (.inl ⟨by rw [H8.out], H6.out⟩)))⟩
                case measure => rw [H1.out, H8.out]; decide
              · obtain ⟨r, m, p', k, k', h1, h2, h3, h4, h5, h6, h7, h8, h9⟩ := pA_round IU.out 2 (by omega)
                rw [← hp] at h4
                have H6 := Lib.hid h6; have H8 := Lib.hid h8; clear h6 h8 hp
                rw [← h1]
                have H1 := Lib.hid h1
                clear h1 h2 kA1 kB1 kC1 ku
                go_wp2
                go_roundw
                case rel => exact ⟨_, _, (by first | rfl | simp only [World.drewN_drewN]), rfl, (.inr (.inr (.inr (.inl ⟨by rw [H8.out], H6.out⟩))))⟩
                case measure => rw [H1.out, H8.out]; decide
              · obtain ⟨r, m, p', k, k', h1, h2, h3, h4, h5, h6, h7, h8, h9⟩ := pA_round IU.out 3 (by omega)
                rw [← hp] at h4
                have H6 := Lib.hid h6; have H8 := Lib.hid h8; clear h6 h8 hp
                rw [← h1]
                have H1 := Lib.hid h1
                clear h1 h2 kA1 kB1 kC1 ku
                go_wp2
                go_roundw
                case rel => exact ⟨_, _, (by first | rfl | simp only [World.drewN_drewN]), rfl, (.inr (.inr (.inr (.inr (.inl ⟨by rw [H8.out], H6.out⟩)))))⟩
                case measure => rw [H1.out, H8.out]; decide
              · obtain ⟨r, m, p', k, k', h1, h2, h3, h4, h5, h6, h7, h8, h9⟩ := pA_round IU.out 4 (by omega)
                rw [← hp] at h4
                have H6 := Lib.hid h6; have H8 := Lib.hid h8; clear h6 h8 hp
                rw [← h1]
                have H1 := Lib.hid h1
                clear h1 h2 kA1 kB1 kC1 ku
                go_wp2
                go_roundw
                case rel => exact ⟨_, _, (by first | rfl | simp only [World.drewN_drewN]), rfl, (.inr (.inr (.inr (.inr (.inr (.inl ⟨by rw [H8.out], H6.out⟩))))))⟩
                case measure => rw [H1.out, H8.out]; decide
              · obtain ⟨r, m, p', k, k', h1, h2, h3, h4, h5, h6, h7, h8, h9⟩ := pA_round IU.out 5 (by omega)
                rw [← hp] at h4
                have H6 := Lib.hid h6; have H8 := Lib.hid h8; clear h6 h8 hp
                rw [← h1]
                have H1 := Lib.hid h1
                clear h1 h2 kA1 kB1 kC1 ku
                go_wp2
                go_roundw
                case rel => exact ⟨_, _, (by first | rfl | simp only [World.drewN_drewN]), rfl, (.inr (.inr (.inr (.inr (.inr (.inr (.inl ⟨by rw [H8.out], H6.out⟩)))))))⟩
                case measure => rw [H1.out, H8.out]; decide
              · obtain ⟨r, m, p', k, k', h1, h2, h3, h4, h5, h6, h7, h8, h9⟩ := pA_round IU.out 6 (by omega)
                rw [← hp] at h4
                have H6 := Lib.hid h6; have H8 := Lib.hid h8; clear h6 h8 hp
                rw [← h1]
                have H1 := Lib.hid h1
                clear h1 h2 kA1 kB1 kC1 ku
                go_wp2
                go_roundw
                case rel => exact ⟨_, _, (by first | rfl | simp only [World.drewN_drewN]), rfl, (.inr (.inr (.inr (.inr (.inr (.inr (.inr (.inl ⟨by rw [H8.out], H6.out⟩))))))))⟩
                case measure => rw [H1.out, H8.out]; decide
              · obtain ⟨r, m, p', k, k', h1, h2, h3, h4, h5, h6, h7, h8, h9⟩ := pA_round IU.out 7 (by omega)
                rw [← hp] at h4
                have H6 := Lib.hid h6; have H8 := Lib.hid h8; clear h6 h8 hp
                rw [← h1]
                have H1 := Lib.hid h1
                clear h1 h2 kA1 kB1 kC1 ku
                go_wp2
                go_roundw
                case rel => exact ⟨_, _, (by first | rfl | simp only [World.drewN_drewN]), rfl, (.inr (.inr (.inr (.inr (.inr (.inr (.inr (.inr (⟨by rw [H8.out], H6.out⟩)))))))))⟩
                case measure => rw [H1.out, H8.out]; decide
              · rw [← hp] at kA1
                clear hp ku
                have hm := kA_end
                generalize kA 8 = kk at *
                have hO : angO (tr .f32 .f64 y) (tr .f32 .f64 x) = false := c1
                have HT2 : Hid (angW (tr .f32 .f64 y) (tr .f32 .f64 x) = an3 (FloatKind.f64.format.order (tr .f32 .f64 y) 0 == some .lt) (an2 (FloatKind.f64.format.order (tr .f32 .f64 x) 0 == some .lt) cC)) := Lib.hid (by rw [HT.out, hO]; rfl)
                have G1 : Hid (In (some cC) (-42) 42) := Lib.hid (an1_in false IC.out).2
                clear hO HT IC
                cases xl : (FloatKind.f32.format.order x 0 == some .lt)
                · have HT3 : Hid (angW (tr .f32 .f64 y) (tr .f32 .f64 x) = an3 (FloatKind.f64.format.order (tr .f32 .f64 y) 0 == some .lt) cC) := Lib.hid (by rw [HT2.out, order0_wide HX.out, xl]; rfl)
                  have G2 : Hid (In (some cC) (-44) 44) := Lib.hid (an2_in false G1.out).2
                  clear HT2 G1
                  cases yl : (FloatKind.f32.format.order y 0 == some .lt)
                  · have HT4 : Hid (angW (tr .f32 .f64 y) (tr .f32 .f64 x) = cC) := Lib.hid (by rw [HT3.out, order0_wide HY.out, yl]; rfl)
                    go_wp2
                    go_ret
                    exact .mk' (by rw [narrow_in (show In (some cC) (-44) 44 from (an3_in false G2.out)) (by omega) (by omega) _, HT4.out]) (by first | exact below_dn HB1.out _ | (simp only [World.drewN_drewN]; exact below_dn HB1.out _))
                  · have HT4 : Hid (angW (tr .f32 .f64 y) (tr .f32 .f64 x) = Op.negFloat .f64 cC) := Lib.hid (by rw [HT3.out, order0_wide HY.out, yl]; rfl)
                    go_wp2
                    go_ret
                    exact .mk' (by rw [narrow_in (show In (some (Op.negFloat .f64 cC)) (-44) 44 from (an3_in true G2.out)) (by omega) (by omega) _, HT4.out]) (by first | exact below_dn HB1.out _ | (simp only [World.drewN_drewN]; exact below_dn HB1.out _))
                · obtain ⟨f2, g2⟩ := an2_in true G1.out
                  have f2 := f2 rfl
                  have HT3 : Hid (angW (tr .f32 .f64 y) (tr .f32 .f64 x) = an3 (FloatKind.f64.format.order (tr .f32 .f64 y) 0 == some .lt) (opw .sub 0x3FE0000000000000 cC)) := Lib.hid (by rw [HT2.out, order0_wide HX.out, xl]; rfl)
                  have G2 : Hid (In (some (opw .sub 0x3FE0000000000000 cC)) (-44) 44) := Lib.hid g2
                  clear g2 HT2 G1
                  generalize opw .sub 0x3FE0000000000000 cC = v2 at *
                  cases yl : (FloatKind.f32.format.order y 0 == some .lt)
                  · have HT4 : Hid (angW (tr .f32 .f64 y) (tr .f32 .f64 x) = v2) := Lib.hid (by rw [HT3.out, order0_wide HY.out, yl]; rfl)
                    go_wp2
                    go_ret
                    exact .mk' (by rw [narrow_in (show In (some v2) (-44) 44 from (an3_in false G2.out)) (by omega) (by omega) _, HT4.out]) (by first | exact below_dn HB1.out _ | (simp only [World.drewN_drewN]; exact below_dn HB1.out _))
                  · have HT4 : Hid (angW (tr .f32 .f64 y) (tr .f32 .f64 x) = Op.negFloat .f64 v2) := Lib.hid (by rw [HT3.out, order0_wide HY.out, yl]; rfl)
                    go_wp2
                    go_ret
                    exact .mk' (by rw [narrow_in (show In (some (Op.negFloat .f64 v2)) (-44) 44 from (an3_in true G2.out)) (by omega) (by omega) _, HT4.out]) (by first | exact below_dn HB1.out _ | (simp only [World.drewN_drewN]; exact below_dn HB1.out _))


end Go.Proofs.YtcaceplnlfmejaaGreatDoor
