/- Angles of points: the walks of the reference, of the program and of the law. -/
import Derived.Test.YtjpbimfnppmbcaaWr3
namespace Go.Proofs.Ytjpbimfnppmbcaa
open Fl Go.RowKit

/-- The smaller side over the greater one. -/
def angO (y x : Nat) : Bool := FloatKind.f64.format.order (absd y) (absd x) == some .gt
def angT (y x : Nat) : Nat := if angO y x then opw .quo (absd x) (absd y) else opw .quo (absd y) (absd x)
theorem angT_or {y x : Nat} (hy : fin Ieee.double y) (hx : fin Ieee.double x) (h0 : ¬ (N Ieee.double x = 0 ∧ N Ieee.double y = 0)) :
    In (some (angT y x)) 0 4 ∧ (((FloatKind.f64.format.order (absd y) (absd x) == some .gt) = true ∧ ∀ w, fa .quo .f64 (absd x) (absd y) w = angT y x) ∨
      ((FloatKind.f64.format.order (absd y) (absd x) == some .gt) = false ∧ ∀ w, fa .quo .f64 (absd y) (absd x) w = angT y x)) := by
  have fy := fin_absd.2 hy
  have fx := fin_absd.2 hx
  have ny := N_absd y
  have nx := N_absd x
  cases ho : (FloatKind.f64.format.order (absd y) (absd x) == some .gt)
  · have hle : N Ieee.double (absd y) ≤ N Ieee.double (absd x) := by
      rw [gt_N fy fx] at ho; simpa using ho
    obtain ⟨q1, q2⟩ := quo_unit fy fx (by omega) hle (by omega)
    have e : angT y x = opw .quo (absd y) (absd x) := by unfold angT angO; rw [ho]; rfl
    rw [e]; exact ⟨q2, .inr ⟨rfl, q1⟩⟩
  · have hlt : N Ieee.double (absd x) < N Ieee.double (absd y) := by
      rw [gt_N fy fx] at ho; simpa using ho
    obtain ⟨q1, q2⟩ := quo_unit fx fy (by omega) (by omega) (by omega)
    have e : angT y x = opw .quo (absd x) (absd y) := by unfold angT angO; rw [ho]; rfl
    rw [e]; exact ⟨q2, .inl ⟨rfl, q1⟩⟩

theorem t_round {t : Nat} (h : In (some t) 0 4) : ∃ a b q c d, (∀ w, fa .mul .f64 t t w = a) ∧ (∀ w, fa .add .f64 0x3FF0000000000000 a w = b) ∧ (∀ w, sq b w = q) ∧ (∀ w, fa .add .f64 0x3FF0000000000000 q w = c) ∧ (∀ w, fa .quo .f64 t c w = d) ∧ d = t3 t :=
  ⟨_, _, _, _, _, (tt_in h).1, (t1_in h).1, (t2s_in h).1, (t2_in h).1, (t3_in h).1, rfl⟩
theorem pA_round {u : Nat} (hu : In (some u) 0 4) (j : Nat) (hj : j < 8) : ∃ r m p' k k', k = kA j ∧ floatOfInt .f64 (kAI j) = k ∧ (∀ w, fa .quo .f64 0x3FF0000000000000 k w = r) ∧ (∀ w, fa .mul .f64 u (pA u j) w = m) ∧ (∀ w, fa .sub .f64 r m w = p') ∧ p' = pA u (j + 1) ∧ (∀ w, fa .sub .f64 k 0x4000000000000000 w = k') ∧ k' = kA (j + 1) ∧
    (FloatKind.f64.format.order k 0x3FF0000000000000 == some .gt || FloatKind.f64.format.order k 0x3FF0000000000000 == some .eq) = true :=
  ⟨_, _, _, _, _, rfl, kA_int j hj, (rA_in j hj).1, (pA_up hu (by omega) (pA_in hu j (by omega))).1, pA_step hj hu, rfl, fa_some (kA_sub j hj), rfl, kA_more j hj⟩

/-- The angle. -/
def angW (y x : Nat) : Nat := an3 (FloatKind.f64.format.order y 0 == some .lt) (an2 (FloatKind.f64.format.order x 0 == some .lt) (an1 (angO y x) (anC (tW (angT y x) 3))))

theorem zero_tests {y x : Nat} (hy : fin Ieee.double y) (hx : fin Ieee.double x) (h0 : ¬ (N Ieee.double x = 0 ∧ N Ieee.double y = 0)) :
    (FloatKind.f64.format.order x 0 == some .eq) = false ∨ ((FloatKind.f64.format.order x 0 == some .eq) = true ∧ (FloatKind.f64.format.order y 0 == some .eq) = false) := by
  rw [eq_N hx zeroF, eq_N hy zeroF, zeroN]
  by_cases h : N Ieee.double x = 0
  · exact .inr ⟨decide_eq_true h, decide_eq_false fun h' => h0 ⟨h, h'⟩⟩
  · exact .inl (decide_eq_false h)

set_option maxHeartbeats 1600000 in
theorem spec_l01AngleWide (y x : Nat) (ly : y < 2 ^ 64) (lx : x < 2 ^ 64) (hy : fin Ieee.double y) (hx : fin Ieee.double x) (h0 : ¬ (N Ieee.double x = 0 ∧ N Ieee.double y = 0)) (w : World) :
    Calls Try.prog 85 #[.float .f64 y, .float .f64 x] w (Ret (.float .f64 (angW y x)) w) := by
  have q1 : ∀ w, (FloatKind.f64.format.order (fa .sub .f64 y y w) 0 != some .eq) = false := fun w => by rw [fin_tests, show finb FloatKind.f64.format y = true from finb_iff.2 hy]; rfl
  have q2 : ∀ w, (FloatKind.f64.format.order (fa .sub .f64 x x w) 0 != some .eq) = false := fun w => by rw [fin_tests, show finb FloatKind.f64.format x = true from finb_iff.2 hx]; rfl
  obtain ⟨i1, hor⟩ := angT_or hy hx h0
  have hz := zero_tests hy hx h0
  have HW : Hid (angW y x = an3 (FloatKind.f64.format.order y 0 == some .lt) (an2 (FloatKind.f64.format.order x 0 == some .lt) (an1 (angO y x) (anC (tW (angT y x) 3))))) := Lib.hid rfl
  clear hy hx h0
  generalize angT y x = t0 at *
  have HLY := Lib.hid ly; have HLX := Lib.hid lx; have I1 := Lib.hid i1; clear ly lx i1
  rcases hor with ⟨c1, k1⟩ | ⟨c1, k1⟩
  all_goals rcases hz with c2 | ⟨c2, c3⟩
  · go_enter Try.func85, Try.ntmps85
    go_wp2_with fail
    refine (math_Abs _ HLY.out _).mono ?_
    rintro e w' ⟨rfl, n, rfl⟩
    go_wp2_with fail
    refine (math_Abs _ HLX.out _).mono ?_
    rintro e w' ⟨rfl, n2, rfl⟩
    go_wp2_with fail
    go_loopw [8, 9] (fun t k wr => ∃ n t', wr = w.drewN n ∧ t = .float .f64 t' ∧ ((k = .int .i64 0 ∧ t' = tW t0 0) ∨ (k = .int .i64 1 ∧ t' = tW t0 1) ∨ (k = .int .i64 2 ∧ t' = tW t0 2) ∨ (k = .int .i64 3 ∧ t' = tW t0 3))) (fun _ k _ => 3 - (intOf k).toNat)
    case atStart => exact ⟨_, _, (by first | rfl | simp only [World.drewN_drewN]), rfl, .inl ⟨rfl, rfl⟩⟩
    case round =>
      obtain ⟨n, t, rfl, rfl, hk⟩ := hrel
      rcases hk with ⟨rfl, ht⟩ | ⟨rfl, ht⟩ | ⟨rfl, ht⟩ | ⟨rfl, ht⟩
      · obtain ⟨a1, b1, s1, d1, e1, h1, h2, h3, h4, h5, h6⟩ := t_round (tW_in I1.out 0)
        rw [← ht] at h1 h5
        have H6 := Lib.hid (show e1 = tW t0 1 from h6); clear h6 ht
        go_wp2_with fail
        refine (math_Sqrt _ _).mono ?_
        rintro e w' ⟨rfl, rfl⟩
        go_wp2
        go_roundw
        case rel => exact ⟨_, _, (by first | rfl | simp only [World.drewN_drewN]), rfl, (.inr (.inl ⟨rfl, H6.out⟩))⟩
        case measure => simp [intOf]
      · obtain ⟨a1, b1, s1, d1, e1, h1, h2, h3, h4, h5, h6⟩ := t_round (tW_in I1.out 1)
        rw [← ht] at h1 h5
        have H6 := Lib.hid (show e1 = tW t0 2 from h6); clear h6 ht
        go_wp2_with fail
        refine (math_Sqrt _ _).mono ?_
        rintro e w' ⟨rfl, rfl⟩
        go_wp2
        go_roundw
        case rel => exact ⟨_, _, (by first | rfl | simp only [World.drewN_drewN]), rfl, (.inr (.inr (.inl ⟨rfl, H6.out⟩)))⟩
        case measure => simp [intOf]
      · obtain ⟨a1, b1, s1, d1, e1, h1, h2, h3, h4, h5, h6⟩ := t_round (tW_in I1.out 2)
        rw [← ht] at h1 h5
        have H6 := Lib.hid (show e1 = tW t0 3 from h6); clear h6 ht
        go_wp2_with fail
        refine (math_Sqrt _ _).mono ?_
        rintro e w' ⟨rfl, rfl⟩
        go_wp2
        go_roundw
        case rel => exact ⟨_, _, (by first | rfl | simp only [World.drewN_drewN]), rfl, (.inr (.inr (.inr (⟨rfl, H6.out⟩))))⟩
        case measure => simp [intOf]
      · have IT := Lib.hid (show In (some t) 0 4 by rw [ht]; exact tW_in I1.out 3)
        obtain ⟨ku, _⟩ := tt_in IT.out
        have IU := Lib.hid (tt_in IT.out).2
        obtain ⟨kA1, _⟩ := anA_in IT.out
        obtain ⟨kB1, _⟩ := anB_in IT.out
        obtain ⟨kC1, iC⟩ := anC_in IT.out
        have IC := Lib.hid iC; clear iC
        have HT : Hid (angW y x = an3 (FloatKind.f64.format.order y 0 == some .lt) (an2 (FloatKind.f64.format.order x 0 == some .lt) (an1 (angO y x) (anC t)))) := Lib.hid (by rw [HW.out, ht])
        clear ht
        generalize anC t = cC at *
        generalize anB t = cB at *
        generalize anA t = cA at *
        generalize tt t = u at *
        go_wp2_with fail
        go_loopw [11, 12] (fun p k wr => ∃ n p', wr = w.drewN n ∧ p = .float .f64 p' ∧ ((k = .int .i64 (15) ∧ p' = pA u 0) ∨ (k = .int .i64 (13) ∧ p' = pA u 1) ∨ (k = .int .i64 (11) ∧ p' = pA u 2) ∨ (k = .int .i64 (9) ∧ p' = pA u 3) ∨ (k = .int .i64 (7) ∧ p' = pA u 4) ∨ (k = .int .i64 (5) ∧ p' = pA u 5) ∨ (k = .int .i64 (3) ∧ p' = pA u 6) ∨ (k = .int .i64 (1) ∧ p' = pA u 7) ∨ (k = .int .i64 (-1) ∧ p' = pA u 8))) (fun _ k _ => (intOf k + 1).toNat)
        case atStart => exact ⟨_, _, (by first | rfl | simp only [World.drewN_drewN]), rfl, .inl ⟨rfl, rfl⟩⟩
        case round =>
          obtain ⟨n, p, rfl, rfl, hk⟩ := hrel
          rcases hk with ⟨rfl, hp⟩ | ⟨rfl, hp⟩ | ⟨rfl, hp⟩ | ⟨rfl, hp⟩ | ⟨rfl, hp⟩ | ⟨rfl, hp⟩ | ⟨rfl, hp⟩ | ⟨rfl, hp⟩ | ⟨rfl, hp⟩
          · obtain ⟨r, m, p', k, k', h1, h2, h3, h4, h5, h6, h7, h8, h9⟩ := pA_round IU.out 0 (by omega)
            rw [← hp] at h4
            have H6 := Lib.hid h6; have H8 := Lib.hid h8; clear h6 h8 hp
            have h2' : floatOfInt .f64 15 = k := h2
            clear h1 h2 h7 h9 kA1 kB1 kC1 ku
            go_wp2
            go_roundw
            case rel => exact ⟨_, _, (by first | rfl | simp only [World.drewN_drewN]), rfl, (.inr (.inl ⟨rfl, H6.out⟩))⟩
            case measure => simp [intOf]
          · obtain ⟨r, m, p', k, k', h1, h2, h3, h4, h5, h6, h7, h8, h9⟩ := pA_round IU.out 1 (by omega)
            rw [← hp] at h4
            have H6 := Lib.hid h6; have H8 := Lib.hid h8; clear h6 h8 hp
            have h2' : floatOfInt .f64 13 = k := h2
            clear h1 h2 h7 h9 kA1 kB1 kC1 ku
            go_wp2
            go_roundw
            case rel => exact ⟨_, _, (by first | rfl | simp only [World.drewN_drewN]), rfl, (.inr (.inr (.inl ⟨rfl, H6.out⟩)))⟩
            case measure => simp [intOf]
          · obtain ⟨r, m, p', k, k', h1, h2, h3, h4, h5, h6, h7, h8, h9⟩ := pA_round IU.out 2 (by omega)
            rw [← hp] at h4
            have H6 := Lib.hid h6; have H8 := Lib.hid h8; clear h6 h8 hp
            have h2' : floatOfInt .f64 11 = k := h2
            clear h1 h2 h7 h9 kA1 kB1 kC1 ku
            go_wp2
            go_roundw
            case rel => exact ⟨_, _, (by first | rfl | simp only [World.drewN_drewN]), rfl, (.inr (.inr (.inr (.inl ⟨rfl, H6.out⟩))))⟩
            case measure => simp [intOf]
          · obtain ⟨r, m, p', k, k', h1, h2, h3, h4, h5, h6, h7, h8, h9⟩ := pA_round IU.out 3 (by omega)
            rw [← hp] at h4
            have H6 := Lib.hid h6; have H8 := Lib.hid h8; clear h6 h8 hp
            have h2' : floatOfInt .f64 9 = k := h2
            clear h1 h2 h7 h9 kA1 kB1 kC1 ku
            go_wp2
            go_roundw
            case rel => exact ⟨_, _, (by first | rfl | simp only [World.drewN_drewN]), rfl, (.inr (.inr (.inr (.inr (.inl ⟨rfl, H6.out⟩)))))⟩
            case measure => simp [intOf]
          · obtain ⟨r, m, p', k, k', h1, h2, h3, h4, h5, h6, h7, h8, h9⟩ := pA_round IU.out 4 (by omega)
            rw [← hp] at h4
            have H6 := Lib.hid h6; have H8 := Lib.hid h8; clear h6 h8 hp
            have h2' : floatOfInt .f64 7 = k := h2
            clear h1 h2 h7 h9 kA1 kB1 kC1 ku
            go_wp2
            go_roundw
            case rel => exact ⟨_, _, (by first | rfl | simp only [World.drewN_drewN]), rfl, (.inr (.inr (.inr (.inr (.inr (.inl ⟨rfl, H6.out⟩))))))⟩
            case measure => simp [intOf]
          · obtain ⟨r, m, p', k, k', h1, h2, h3, h4, h5, h6, h7, h8, h9⟩ := pA_round IU.out 5 (by omega)
            rw [← hp] at h4
            have H6 := Lib.hid h6; have H8 := Lib.hid h8; clear h6 h8 hp
            have h2' : floatOfInt .f64 5 = k := h2
            clear h1 h2 h7 h9 kA1 kB1 kC1 ku
            go_wp2
            go_roundw
            case rel => exact ⟨_, _, (by first | rfl | simp only [World.drewN_drewN]), rfl, (.inr (.inr (.inr (.inr (.inr (.inr (.inl ⟨rfl, H6.out⟩)))))))⟩
            case measure => simp [intOf]
          · obtain ⟨r, m, p', k, k', h1, h2, h3, h4, h5, h6, h7, h8, h9⟩ := pA_round IU.out 6 (by omega)
            rw [← hp] at h4
            have H6 := Lib.hid h6; have H8 := Lib.hid h8; clear h6 h8 hp
            have h2' : floatOfInt .f64 3 = k := h2
            clear h1 h2 h7 h9 kA1 kB1 kC1 ku
            go_wp2
            go_roundw
            case rel => exact ⟨_, _, (by first | rfl | simp only [World.drewN_drewN]), rfl, (.inr (.inr (.inr (.inr (.inr (.inr (.inr (.inl ⟨rfl, H6.out⟩))))))))⟩
            case measure => simp [intOf]
          · obtain ⟨r, m, p', k, k', h1, h2, h3, h4, h5, h6, h7, h8, h9⟩ := pA_round IU.out 7 (by omega)
            rw [← hp] at h4
            have H6 := Lib.hid h6; have H8 := Lib.hid h8; clear h6 h8 hp
            have h2' : floatOfInt .f64 1 = k := h2
            clear h1 h2 h7 h9 kA1 kB1 kC1 ku
            go_wp2
            go_roundw
            case rel => exact ⟨_, _, (by first | rfl | simp only [World.drewN_drewN]), rfl, (.inr (.inr (.inr (.inr (.inr (.inr (.inr (.inr (⟨rfl, H6.out⟩)))))))))⟩
            case measure => simp [intOf]
          · rw [← hp] at kA1
            clear hp ku
            have hO : angO y x = true := c1
            obtain ⟨f1, g1⟩ := an1_in true IC.out
            have f1 := f1 rfl
            have HT2 : Hid (angW y x = an3 (FloatKind.f64.format.order y 0 == some .lt) (an2 (FloatKind.f64.format.order x 0 == some .lt) (opw .sub 0x3FD0000000000000 cC))) := Lib.hid (by rw [HT.out, hO]; rfl)
            have G1 : Hid (In (some (opw .sub 0x3FD0000000000000 cC)) (-42) 42) := Lib.hid g1
            clear g1 hO HT IC
            generalize opw .sub 0x3FD0000000000000 cC = v1 at *
            cases xl : (FloatKind.f64.format.order x 0 == some .lt)
            · have HT3 : Hid (angW y x = an3 (FloatKind.f64.format.order y 0 == some .lt) v1) := Lib.hid (by rw [HT2.out, xl]; rfl)
              have G2 : Hid (In (some v1) (-44) 44) := Lib.hid (an2_in false G1.out).2
              clear HT2 G1
              cases yl : (FloatKind.f64.format.order y 0 == some .lt)
              · have HT4 : Hid (angW y x = v1) := Lib.hid (by rw [HT3.out, yl]; rfl)
                go_wp2
                go_ret
                exact .mk' _ (float_congr HT4.out.symm) rfl
              · have HT4 : Hid (angW y x = Op.negFloat .f64 v1) := Lib.hid (by rw [HT3.out, yl]; rfl)
                go_wp2
                go_ret
                exact .mk' _ (float_congr HT4.out.symm) rfl
            · obtain ⟨f2, g2⟩ := an2_in true G1.out
              have f2 := f2 rfl
              have HT3 : Hid (angW y x = an3 (FloatKind.f64.format.order y 0 == some .lt) (opw .sub 0x3FE0000000000000 v1)) := Lib.hid (by rw [HT2.out, xl]; rfl)
              have G2 : Hid (In (some (opw .sub 0x3FE0000000000000 v1)) (-44) 44) := Lib.hid g2
              clear g2 HT2 G1
              generalize opw .sub 0x3FE0000000000000 v1 = v2 at *
              cases yl : (FloatKind.f64.format.order y 0 == some .lt)
              · have HT4 : Hid (angW y x = v2) := Lib.hid (by rw [HT3.out, yl]; rfl)
                go_wp2
                go_ret
                exact .mk' _ (float_congr HT4.out.symm) rfl
              · have HT4 : Hid (angW y x = Op.negFloat .f64 v2) := Lib.hid (by rw [HT3.out, yl]; rfl)
                go_wp2
                go_ret
                exact .mk' _ (float_congr HT4.out.symm) rfl
  · go_enter Try.func85, Try.ntmps85
    go_wp2_with fail
    refine (math_Abs _ HLY.out _).mono ?_
    rintro e w' ⟨rfl, n, rfl⟩
    go_wp2_with fail
    refine (math_Abs _ HLX.out _).mono ?_
    rintro e w' ⟨rfl, n2, rfl⟩
    go_wp2_with fail
    go_loopw [8, 9] (fun t k wr => ∃ n t', wr = w.drewN n ∧ t = .float .f64 t' ∧ ((k = .int .i64 0 ∧ t' = tW t0 0) ∨ (k = .int .i64 1 ∧ t' = tW t0 1) ∨ (k = .int .i64 2 ∧ t' = tW t0 2) ∨ (k = .int .i64 3 ∧ t' = tW t0 3))) (fun _ k _ => 3 - (intOf k).toNat)
    case atStart => exact ⟨_, _, (by first | rfl | simp only [World.drewN_drewN]), rfl, .inl ⟨rfl, rfl⟩⟩
    case round =>
      obtain ⟨n, t, rfl, rfl, hk⟩ := hrel
      rcases hk with ⟨rfl, ht⟩ | ⟨rfl, ht⟩ | ⟨rfl, ht⟩ | ⟨rfl, ht⟩
      · obtain ⟨a1, b1, s1, d1, e1, h1, h2, h3, h4, h5, h6⟩ := t_round (tW_in I1.out 0)
        rw [← ht] at h1 h5
        have H6 := Lib.hid (show e1 = tW t0 1 from h6); clear h6 ht
        go_wp2_with fail
        refine (math_Sqrt _ _).mono ?_
        rintro e w' ⟨rfl, rfl⟩
        go_wp2
        go_roundw
        case rel => exact ⟨_, _, (by first | rfl | simp only [World.drewN_drewN]), rfl, (.inr (.inl ⟨rfl, H6.out⟩))⟩
        case measure => simp [intOf]
      · obtain ⟨a1, b1, s1, d1, e1, h1, h2, h3, h4, h5, h6⟩ := t_round (tW_in I1.out 1)
        rw [← ht] at h1 h5
        have H6 := Lib.hid (show e1 = tW t0 2 from h6); clear h6 ht
        go_wp2_with fail
        refine (math_Sqrt _ _).mono ?_
        rintro e w' ⟨rfl, rfl⟩
        go_wp2
        go_roundw
        case rel => exact ⟨_, _, (by first | rfl | simp only [World.drewN_drewN]), rfl, (.inr (.inr (.inl ⟨rfl, H6.out⟩)))⟩
        case measure => simp [intOf]
      · obtain ⟨a1, b1, s1, d1, e1, h1, h2, h3, h4, h5, h6⟩ := t_round (tW_in I1.out 2)
        rw [← ht] at h1 h5
        have H6 := Lib.hid (show e1 = tW t0 3 from h6); clear h6 ht
        go_wp2_with fail
        refine (math_Sqrt _ _).mono ?_
        rintro e w' ⟨rfl, rfl⟩
        go_wp2
        go_roundw
        case rel => exact ⟨_, _, (by first | rfl | simp only [World.drewN_drewN]), rfl, (.inr (.inr (.inr (⟨rfl, H6.out⟩))))⟩
        case measure => simp [intOf]
      · have IT := Lib.hid (show In (some t) 0 4 by rw [ht]; exact tW_in I1.out 3)
        obtain ⟨ku, _⟩ := tt_in IT.out
        have IU := Lib.hid (tt_in IT.out).2
        obtain ⟨kA1, _⟩ := anA_in IT.out
        obtain ⟨kB1, _⟩ := anB_in IT.out
        obtain ⟨kC1, iC⟩ := anC_in IT.out
        have IC := Lib.hid iC; clear iC
        have HT : Hid (angW y x = an3 (FloatKind.f64.format.order y 0 == some .lt) (an2 (FloatKind.f64.format.order x 0 == some .lt) (an1 (angO y x) (anC t)))) := Lib.hid (by rw [HW.out, ht])
        clear ht
        generalize anC t = cC at *
        generalize anB t = cB at *
        generalize anA t = cA at *
        generalize tt t = u at *
        go_wp2_with fail
        go_loopw [11, 12] (fun p k wr => ∃ n p', wr = w.drewN n ∧ p = .float .f64 p' ∧ ((k = .int .i64 (15) ∧ p' = pA u 0) ∨ (k = .int .i64 (13) ∧ p' = pA u 1) ∨ (k = .int .i64 (11) ∧ p' = pA u 2) ∨ (k = .int .i64 (9) ∧ p' = pA u 3) ∨ (k = .int .i64 (7) ∧ p' = pA u 4) ∨ (k = .int .i64 (5) ∧ p' = pA u 5) ∨ (k = .int .i64 (3) ∧ p' = pA u 6) ∨ (k = .int .i64 (1) ∧ p' = pA u 7) ∨ (k = .int .i64 (-1) ∧ p' = pA u 8))) (fun _ k _ => (intOf k + 1).toNat)
        case atStart => exact ⟨_, _, (by first | rfl | simp only [World.drewN_drewN]), rfl, .inl ⟨rfl, rfl⟩⟩
        case round =>
          obtain ⟨n, p, rfl, rfl, hk⟩ := hrel
          rcases hk with ⟨rfl, hp⟩ | ⟨rfl, hp⟩ | ⟨rfl, hp⟩ | ⟨rfl, hp⟩ | ⟨rfl, hp⟩ | ⟨rfl, hp⟩ | ⟨rfl, hp⟩ | ⟨rfl, hp⟩ | ⟨rfl, hp⟩
          · obtain ⟨r, m, p', k, k', h1, h2, h3, h4, h5, h6, h7, h8, h9⟩ := pA_round IU.out 0 (by omega)
            rw [← hp] at h4
            have H6 := Lib.hid h6; have H8 := Lib.hid h8; clear h6 h8 hp
            have h2' : floatOfInt .f64 15 = k := h2
            clear h1 h2 h7 h9 kA1 kB1 kC1 ku
            go_wp2
            go_roundw
            case rel => exact ⟨_, _, (by first | rfl | simp only [World.drewN_drewN]), rfl, (.inr (.inl ⟨rfl, H6.out⟩))⟩
            case measure => simp [intOf]
          · obtain ⟨r, m, p', k, k', h1, h2, h3, h4, h5, h6, h7, h8, h9⟩ := pA_round IU.out 1 (by omega)
            rw [← hp] at h4
            have H6 := Lib.hid h6; have H8 := Lib.hid h8; clear h6 h8 hp
            have h2' : floatOfInt .f64 13 = k := h2
            clear h1 h2 h7 h9 kA1 kB1 kC1 ku
            go_wp2
            go_roundw
            case rel => exact ⟨_, _, (by first | rfl | simp only [World.drewN_drewN]), rfl, (.inr (.inr (.inl ⟨rfl, H6.out⟩)))⟩
            case measure => simp [intOf]
          · obtain ⟨r, m, p', k, k', h1, h2, h3, h4, h5, h6, h7, h8, h9⟩ := pA_round IU.out 2 (by omega)
            rw [← hp] at h4
            have H6 := Lib.hid h6; have H8 := Lib.hid h8; clear h6 h8 hp
            have h2' : floatOfInt .f64 11 = k := h2
            clear h1 h2 h7 h9 kA1 kB1 kC1 ku
            go_wp2
            go_roundw
            case rel => exact ⟨_, _, (by first | rfl | simp only [World.drewN_drewN]), rfl, (.inr (.inr (.inr (.inl ⟨rfl, H6.out⟩))))⟩
            case measure => simp [intOf]
          · obtain ⟨r, m, p', k, k', h1, h2, h3, h4, h5, h6, h7, h8, h9⟩ := pA_round IU.out 3 (by omega)
            rw [← hp] at h4
            have H6 := Lib.hid h6; have H8 := Lib.hid h8; clear h6 h8 hp
            have h2' : floatOfInt .f64 9 = k := h2
            clear h1 h2 h7 h9 kA1 kB1 kC1 ku
            go_wp2
            go_roundw
            case rel => exact ⟨_, _, (by first | rfl | simp only [World.drewN_drewN]), rfl, (.inr (.inr (.inr (.inr (.inl ⟨rfl, H6.out⟩)))))⟩
            case measure => simp [intOf]
          · obtain ⟨r, m, p', k, k', h1, h2, h3, h4, h5, h6, h7, h8, h9⟩ := pA_round IU.out 4 (by omega)
            rw [← hp] at h4
            have H6 := Lib.hid h6; have H8 := Lib.hid h8; clear h6 h8 hp
            have h2' : floatOfInt .f64 7 = k := h2
            clear h1 h2 h7 h9 kA1 kB1 kC1 ku
            go_wp2
            go_roundw
            case rel => exact ⟨_, _, (by first | rfl | simp only [World.drewN_drewN]), rfl, (.inr (.inr (.inr (.inr (.inr (.inl ⟨rfl, H6.out⟩))))))⟩
            case measure => simp [intOf]
          · obtain ⟨r, m, p', k, k', h1, h2, h3, h4, h5, h6, h7, h8, h9⟩ := pA_round IU.out 5 (by omega)
            rw [← hp] at h4
            have H6 := Lib.hid h6; have H8 := Lib.hid h8; clear h6 h8 hp
            have h2' : floatOfInt .f64 5 = k := h2
            clear h1 h2 h7 h9 kA1 kB1 kC1 ku
            go_wp2
            go_roundw
            case rel => exact ⟨_, _, (by first | rfl | simp only [World.drewN_drewN]), rfl, (.inr (.inr (.inr (.inr (.inr (.inr (.inl ⟨rfl, H6.out⟩)))))))⟩
            case measure => simp [intOf]
          · obtain ⟨r, m, p', k, k', h1, h2, h3, h4, h5, h6, h7, h8, h9⟩ := pA_round IU.out 6 (by omega)
            rw [← hp] at h4
            have H6 := Lib.hid h6; have H8 := Lib.hid h8; clear h6 h8 hp
            have h2' : floatOfInt .f64 3 = k := h2
            clear h1 h2 h7 h9 kA1 kB1 kC1 ku
            go_wp2
            go_roundw
            case rel => exact ⟨_, _, (by first | rfl | simp only [World.drewN_drewN]), rfl, (.inr (.inr (.inr (.inr (.inr (.inr (.inr (.inl ⟨rfl, H6.out⟩))))))))⟩
            case measure => simp [intOf]
          · obtain ⟨r, m, p', k, k', h1, h2, h3, h4, h5, h6, h7, h8, h9⟩ := pA_round IU.out 7 (by omega)
            rw [← hp] at h4
            have H6 := Lib.hid h6; have H8 := Lib.hid h8; clear h6 h8 hp
            have h2' : floatOfInt .f64 1 = k := h2
            clear h1 h2 h7 h9 kA1 kB1 kC1 ku
            go_wp2
            go_roundw
            case rel => exact ⟨_, _, (by first | rfl | simp only [World.drewN_drewN]), rfl, (.inr (.inr (.inr (.inr (.inr (.inr (.inr (.inr (⟨rfl, H6.out⟩)))))))))⟩
            case measure => simp [intOf]
          · rw [← hp] at kA1
            clear hp ku
            have hO : angO y x = true := c1
            obtain ⟨f1, g1⟩ := an1_in true IC.out
            have f1 := f1 rfl
            have HT2 : Hid (angW y x = an3 (FloatKind.f64.format.order y 0 == some .lt) (an2 (FloatKind.f64.format.order x 0 == some .lt) (opw .sub 0x3FD0000000000000 cC))) := Lib.hid (by rw [HT.out, hO]; rfl)
            have G1 : Hid (In (some (opw .sub 0x3FD0000000000000 cC)) (-42) 42) := Lib.hid g1
            clear g1 hO HT IC
            generalize opw .sub 0x3FD0000000000000 cC = v1 at *
            cases xl : (FloatKind.f64.format.order x 0 == some .lt)
            · have HT3 : Hid (angW y x = an3 (FloatKind.f64.format.order y 0 == some .lt) v1) := Lib.hid (by rw [HT2.out, xl]; rfl)
              have G2 : Hid (In (some v1) (-44) 44) := Lib.hid (an2_in false G1.out).2
              clear HT2 G1
              cases yl : (FloatKind.f64.format.order y 0 == some .lt)
              · have HT4 : Hid (angW y x = v1) := Lib.hid (by rw [HT3.out, yl]; rfl)
                go_wp2
                go_ret
                exact .mk' _ (float_congr HT4.out.symm) rfl
              · have HT4 : Hid (angW y x = Op.negFloat .f64 v1) := Lib.hid (by rw [HT3.out, yl]; rfl)
                go_wp2
                go_ret
                exact .mk' _ (float_congr HT4.out.symm) rfl
            · obtain ⟨f2, g2⟩ := an2_in true G1.out
              have f2 := f2 rfl
              have HT3 : Hid (angW y x = an3 (FloatKind.f64.format.order y 0 == some .lt) (opw .sub 0x3FE0000000000000 v1)) := Lib.hid (by rw [HT2.out, xl]; rfl)
              have G2 : Hid (In (some (opw .sub 0x3FE0000000000000 v1)) (-44) 44) := Lib.hid g2
              clear g2 HT2 G1
              generalize opw .sub 0x3FE0000000000000 v1 = v2 at *
              cases yl : (FloatKind.f64.format.order y 0 == some .lt)
              · have HT4 : Hid (angW y x = v2) := Lib.hid (by rw [HT3.out, yl]; rfl)
                go_wp2
                go_ret
                exact .mk' _ (float_congr HT4.out.symm) rfl
              · have HT4 : Hid (angW y x = Op.negFloat .f64 v2) := Lib.hid (by rw [HT3.out, yl]; rfl)
                go_wp2
                go_ret
                exact .mk' _ (float_congr HT4.out.symm) rfl
  · go_enter Try.func85, Try.ntmps85
    go_wp2_with fail
    refine (math_Abs _ HLY.out _).mono ?_
    rintro e w' ⟨rfl, n, rfl⟩
    go_wp2_with fail
    refine (math_Abs _ HLX.out _).mono ?_
    rintro e w' ⟨rfl, n2, rfl⟩
    go_wp2_with fail
    go_loopw [8, 9] (fun t k wr => ∃ n t', wr = w.drewN n ∧ t = .float .f64 t' ∧ ((k = .int .i64 0 ∧ t' = tW t0 0) ∨ (k = .int .i64 1 ∧ t' = tW t0 1) ∨ (k = .int .i64 2 ∧ t' = tW t0 2) ∨ (k = .int .i64 3 ∧ t' = tW t0 3))) (fun _ k _ => 3 - (intOf k).toNat)
    case atStart => exact ⟨_, _, (by first | rfl | simp only [World.drewN_drewN]), rfl, .inl ⟨rfl, rfl⟩⟩
    case round =>
      obtain ⟨n, t, rfl, rfl, hk⟩ := hrel
      rcases hk with ⟨rfl, ht⟩ | ⟨rfl, ht⟩ | ⟨rfl, ht⟩ | ⟨rfl, ht⟩
      · obtain ⟨a1, b1, s1, d1, e1, h1, h2, h3, h4, h5, h6⟩ := t_round (tW_in I1.out 0)
        rw [← ht] at h1 h5
        have H6 := Lib.hid (show e1 = tW t0 1 from h6); clear h6 ht
        go_wp2_with fail
        refine (math_Sqrt _ _).mono ?_
        rintro e w' ⟨rfl, rfl⟩
        go_wp2
        go_roundw
        case rel => exact ⟨_, _, (by first | rfl | simp only [World.drewN_drewN]), rfl, (.inr (.inl ⟨rfl, H6.out⟩))⟩
        case measure => simp [intOf]
      · obtain ⟨a1, b1, s1, d1, e1, h1, h2, h3, h4, h5, h6⟩ := t_round (tW_in I1.out 1)
        rw [← ht] at h1 h5
        have H6 := Lib.hid (show e1 = tW t0 2 from h6); clear h6 ht
        go_wp2_with fail
        refine (math_Sqrt _ _).mono ?_
        rintro e w' ⟨rfl, rfl⟩
        go_wp2
        go_roundw
        case rel => exact ⟨_, _, (by first | rfl | simp only [World.drewN_drewN]), rfl, (.inr (.inr (.inl ⟨rfl, H6.out⟩)))⟩
        case measure => simp [intOf]
      · obtain ⟨a1, b1, s1, d1, e1, h1, h2, h3, h4, h5, h6⟩ := t_round (tW_in I1.out 2)
        rw [← ht] at h1 h5
        have H6 := Lib.hid (show e1 = tW t0 3 from h6); clear h6 ht
        go_wp2_with fail
        refine (math_Sqrt _ _).mono ?_
        rintro e w' ⟨rfl, rfl⟩
        go_wp2
        go_roundw
        case rel => exact ⟨_, _, (by first | rfl | simp only [World.drewN_drewN]), rfl, (.inr (.inr (.inr (⟨rfl, H6.out⟩))))⟩
        case measure => simp [intOf]
      · have IT := Lib.hid (show In (some t) 0 4 by rw [ht]; exact tW_in I1.out 3)
        obtain ⟨ku, _⟩ := tt_in IT.out
        have IU := Lib.hid (tt_in IT.out).2
        obtain ⟨kA1, _⟩ := anA_in IT.out
        obtain ⟨kB1, _⟩ := anB_in IT.out
        obtain ⟨kC1, iC⟩ := anC_in IT.out
        have IC := Lib.hid iC; clear iC
        have HT : Hid (angW y x = an3 (FloatKind.f64.format.order y 0 == some .lt) (an2 (FloatKind.f64.format.order x 0 == some .lt) (an1 (angO y x) (anC t)))) := Lib.hid (by rw [HW.out, ht])
        clear ht
        generalize anC t = cC at *
        generalize anB t = cB at *
        generalize anA t = cA at *
        generalize tt t = u at *
        go_wp2_with fail
        go_loopw [11, 12] (fun p k wr => ∃ n p', wr = w.drewN n ∧ p = .float .f64 p' ∧ ((k = .int .i64 (15) ∧ p' = pA u 0) ∨ (k = .int .i64 (13) ∧ p' = pA u 1) ∨ (k = .int .i64 (11) ∧ p' = pA u 2) ∨ (k = .int .i64 (9) ∧ p' = pA u 3) ∨ (k = .int .i64 (7) ∧ p' = pA u 4) ∨ (k = .int .i64 (5) ∧ p' = pA u 5) ∨ (k = .int .i64 (3) ∧ p' = pA u 6) ∨ (k = .int .i64 (1) ∧ p' = pA u 7) ∨ (k = .int .i64 (-1) ∧ p' = pA u 8))) (fun _ k _ => (intOf k + 1).toNat)
        case atStart => exact ⟨_, _, (by first | rfl | simp only [World.drewN_drewN]), rfl, .inl ⟨rfl, rfl⟩⟩
        case round =>
          obtain ⟨n, p, rfl, rfl, hk⟩ := hrel
          rcases hk with ⟨rfl, hp⟩ | ⟨rfl, hp⟩ | ⟨rfl, hp⟩ | ⟨rfl, hp⟩ | ⟨rfl, hp⟩ | ⟨rfl, hp⟩ | ⟨rfl, hp⟩ | ⟨rfl, hp⟩ | ⟨rfl, hp⟩
          · obtain ⟨r, m, p', k, k', h1, h2, h3, h4, h5, h6, h7, h8, h9⟩ := pA_round IU.out 0 (by omega)
            rw [← hp] at h4
            have H6 := Lib.hid h6; have H8 := Lib.hid h8; clear h6 h8 hp
            have h2' : floatOfInt .f64 15 = k := h2
            clear h1 h2 h7 h9 kA1 kB1 kC1 ku
            go_wp2
            go_roundw
            case rel => exact ⟨_, _, (by first | rfl | simp only [World.drewN_drewN]), rfl, (.inr (.inl ⟨rfl, H6.out⟩))⟩
            case measure => simp [intOf]
          · obtain ⟨r, m, p', k, k', h1, h2, h3, h4, h5, h6, h7, h8, h9⟩ := pA_round IU.out 1 (by omega)
            rw [← hp] at h4
            have H6 := Lib.hid h6; have H8 := Lib.hid h8; clear h6 h8 hp
            have h2' : floatOfInt .f64 13 = k := h2
            clear h1 h2 h7 h9 kA1 kB1 kC1 ku
            go_wp2
            go_roundw
            case rel => exact ⟨_, _, (by first | rfl | simp only [World.drewN_drewN]), rfl, (.inr (.inr (.inl ⟨rfl, H6.out⟩)))⟩
            case measure => simp [intOf]
          · obtain ⟨r, m, p', k, k', h1, h2, h3, h4, h5, h6, h7, h8, h9⟩ := pA_round IU.out 2 (by omega)
            rw [← hp] at h4
            have H6 := Lib.hid h6; have H8 := Lib.hid h8; clear h6 h8 hp
            have h2' : floatOfInt .f64 11 = k := h2
            clear h1 h2 h7 h9 kA1 kB1 kC1 ku
            go_wp2
            go_roundw
            case rel => exact ⟨_, _, (by first | rfl | simp only [World.drewN_drewN]), rfl, (.inr (.inr (.inr (.inl ⟨rfl, H6.out⟩))))⟩
            case measure => simp [intOf]
          · obtain ⟨r, m, p', k, k', h1, h2, h3, h4, h5, h6, h7, h8, h9⟩ := pA_round IU.out 3 (by omega)
            rw [← hp] at h4
            have H6 := Lib.hid h6; have H8 := Lib.hid h8; clear h6 h8 hp
            have h2' : floatOfInt .f64 9 = k := h2
            clear h1 h2 h7 h9 kA1 kB1 kC1 ku
            go_wp2
            go_roundw
            case rel => exact ⟨_, _, (by first | rfl | simp only [World.drewN_drewN]), rfl, (.inr (.inr (.inr (.inr (.inl ⟨rfl, H6.out⟩)))))⟩
            case measure => simp [intOf]
          · obtain ⟨r, m, p', k, k', h1, h2, h3, h4, h5, h6, h7, h8, h9⟩ := pA_round IU.out 4 (by omega)
            rw [← hp] at h4
            have H6 := Lib.hid h6; have H8 := Lib.hid h8; clear h6 h8 hp
            have h2' : floatOfInt .f64 7 = k := h2
            clear h1 h2 h7 h9 kA1 kB1 kC1 ku
            go_wp2
            go_roundw
            case rel => exact ⟨_, _, (by first | rfl | simp only [World.drewN_drewN]), rfl, (.inr (.inr (.inr (.inr (.inr (.inl ⟨rfl, H6.out⟩))))))⟩
            case measure => simp [intOf]
          · obtain ⟨r, m, p', k, k', h1, h2, h3, h4, h5, h6, h7, h8, h9⟩ := pA_round IU.out 5 (by omega)
            rw [← hp] at h4
            have H6 := Lib.hid h6; have H8 := Lib.hid h8; clear h6 h8 hp
            have h2' : floatOfInt .f64 5 = k := h2
            clear h1 h2 h7 h9 kA1 kB1 kC1 ku
            go_wp2
            go_roundw
            case rel => exact ⟨_, _, (by first | rfl | simp only [World.drewN_drewN]), rfl, (.inr (.inr (.inr (.inr (.inr (.inr (.inl ⟨rfl, H6.out⟩)))))))⟩
            case measure => simp [intOf]
          · obtain ⟨r, m, p', k, k', h1, h2, h3, h4, h5, h6, h7, h8, h9⟩ := pA_round IU.out 6 (by omega)
            rw [← hp] at h4
            have H6 := Lib.hid h6; have H8 := Lib.hid h8; clear h6 h8 hp
            have h2' : floatOfInt .f64 3 = k := h2
            clear h1 h2 h7 h9 kA1 kB1 kC1 ku
            go_wp2
            go_roundw
            case rel => exact ⟨_, _, (by first | rfl | simp only [World.drewN_drewN]), rfl, (.inr (.inr (.inr (.inr (.inr (.inr (.inr (.inl ⟨rfl, H6.out⟩))))))))⟩
            case measure => simp [intOf]
          · obtain ⟨r, m, p', k, k', h1, h2, h3, h4, h5, h6, h7, h8, h9⟩ := pA_round IU.out 7 (by omega)
            rw [← hp] at h4
            have H6 := Lib.hid h6; have H8 := Lib.hid h8; clear h6 h8 hp
            have h2' : floatOfInt .f64 1 = k := h2
            clear h1 h2 h7 h9 kA1 kB1 kC1 ku
            go_wp2
            go_roundw
            case rel => exact ⟨_, _, (by first | rfl | simp only [World.drewN_drewN]), rfl, (.inr (.inr (.inr (.inr (.inr (.inr (.inr (.inr (⟨rfl, H6.out⟩)))))))))⟩
            case measure => simp [intOf]
          · rw [← hp] at kA1
            clear hp ku
            have hO : angO y x = false := c1
            have HT2 : Hid (angW y x = an3 (FloatKind.f64.format.order y 0 == some .lt) (an2 (FloatKind.f64.format.order x 0 == some .lt) cC)) := Lib.hid (by rw [HT.out, hO]; rfl)
            have G1 : Hid (In (some cC) (-42) 42) := Lib.hid (an1_in false IC.out).2
            clear hO HT IC
            cases xl : (FloatKind.f64.format.order x 0 == some .lt)
            · have HT3 : Hid (angW y x = an3 (FloatKind.f64.format.order y 0 == some .lt) cC) := Lib.hid (by rw [HT2.out, xl]; rfl)
              have G2 : Hid (In (some cC) (-44) 44) := Lib.hid (an2_in false G1.out).2
              clear HT2 G1
              cases yl : (FloatKind.f64.format.order y 0 == some .lt)
              · have HT4 : Hid (angW y x = cC) := Lib.hid (by rw [HT3.out, yl]; rfl)
                go_wp2
                go_ret
                exact .mk' _ (float_congr HT4.out.symm) rfl
              · have HT4 : Hid (angW y x = Op.negFloat .f64 cC) := Lib.hid (by rw [HT3.out, yl]; rfl)
                go_wp2
                go_ret
                exact .mk' _ (float_congr HT4.out.symm) rfl
            · obtain ⟨f2, g2⟩ := an2_in true G1.out
              have f2 := f2 rfl
              have HT3 : Hid (angW y x = an3 (FloatKind.f64.format.order y 0 == some .lt) (opw .sub 0x3FE0000000000000 cC)) := Lib.hid (by rw [HT2.out, xl]; rfl)
              have G2 : Hid (In (some (opw .sub 0x3FE0000000000000 cC)) (-44) 44) := Lib.hid g2
              clear g2 HT2 G1
              generalize opw .sub 0x3FE0000000000000 cC = v2 at *
              cases yl : (FloatKind.f64.format.order y 0 == some .lt)
              · have HT4 : Hid (angW y x = v2) := Lib.hid (by rw [HT3.out, yl]; rfl)
                go_wp2
                go_ret
                exact .mk' _ (float_congr HT4.out.symm) rfl
              · have HT4 : Hid (angW y x = Op.negFloat .f64 v2) := Lib.hid (by rw [HT3.out, yl]; rfl)
                go_wp2
                go_ret
                exact .mk' _ (float_congr HT4.out.symm) rfl
  · go_enter Try.func85, Try.ntmps85
    go_wp2_with fail
    refine (math_Abs _ HLY.out _).mono ?_
    rintro e w' ⟨rfl, n, rfl⟩
    go_wp2_with fail
    refine (math_Abs _ HLX.out _).mono ?_
    rintro e w' ⟨rfl, n2, rfl⟩
    go_wp2_with fail
    go_loopw [8, 9] (fun t k wr => ∃ n t', wr = w.drewN n ∧ t = .float .f64 t' ∧ ((k = .int .i64 0 ∧ t' = tW t0 0) ∨ (k = .int .i64 1 ∧ t' = tW t0 1) ∨ (k = .int .i64 2 ∧ t' = tW t0 2) ∨ (k = .int .i64 3 ∧ t' = tW t0 3))) (fun _ k _ => 3 - (intOf k).toNat)
    case atStart => exact ⟨_, _, (by first | rfl | simp only [World.drewN_drewN]), rfl, .inl ⟨rfl, rfl⟩⟩
    case round =>
      obtain ⟨n, t, rfl, rfl, hk⟩ := hrel
      rcases hk with ⟨rfl, ht⟩ | ⟨rfl, ht⟩ | ⟨rfl, ht⟩ | ⟨rfl, ht⟩
      · obtain ⟨a1, b1, s1, d1, e1, h1, h2, h3, h4, h5, h6⟩ := t_round (tW_in I1.out 0)
        rw [← ht] at h1 h5
        have H6 := Lib.hid (show e1 = tW t0 1 from h6); clear h6 ht
        go_wp2_with fail
        refine (math_Sqrt _ _).mono ?_
        rintro e w' ⟨rfl, rfl⟩
        go_wp2
        go_roundw
        case rel => exact ⟨_, _, (by first | rfl | simp only [World.drewN_drewN]), rfl, (.inr (.inl ⟨rfl, H6.out⟩))⟩
        case measure => simp [intOf]
      · obtain ⟨a1, b1, s1, d1, e1, h1, h2, h3, h4, h5, h6⟩ := t_round (tW_in I1.out 1)
        rw [← ht] at h1 h5
        have H6 := Lib.hid (show e1 = tW t0 2 from h6); clear h6 ht
        go_wp2_with fail
        refine (math_Sqrt _ _).mono ?_
        rintro e w' ⟨rfl, rfl⟩
        go_wp2
        go_roundw
        case rel => exact ⟨_, _, (by first | rfl | simp only [World.drewN_drewN]), rfl, (.inr (.inr (.inl ⟨rfl, H6.out⟩)))⟩
        case measure => simp [intOf]
      · obtain ⟨a1, b1, s1, d1, e1, h1, h2, h3, h4, h5, h6⟩ := t_round (tW_in I1.out 2)
        rw [← ht] at h1 h5
        have H6 := Lib.hid (show e1 = tW t0 3 from h6); clear h6 ht
        go_wp2_with fail
        refine (math_Sqrt _ _).mono ?_
        rintro e w' ⟨rfl, rfl⟩
        go_wp2
        go_roundw
        case rel => exact ⟨_, _, (by first | rfl | simp only [World.drewN_drewN]), rfl, (.inr (.inr (.inr (⟨rfl, H6.out⟩))))⟩
        case measure => simp [intOf]
      · have IT := Lib.hid (show In (some t) 0 4 by rw [ht]; exact tW_in I1.out 3)
        obtain ⟨ku, _⟩ := tt_in IT.out
        have IU := Lib.hid (tt_in IT.out).2
        obtain ⟨kA1, _⟩ := anA_in IT.out
        obtain ⟨kB1, _⟩ := anB_in IT.out
        obtain ⟨kC1, iC⟩ := anC_in IT.out
        have IC := Lib.hid iC; clear iC
        have HT : Hid (angW y x = an3 (FloatKind.f64.format.order y 0 == some .lt) (an2 (FloatKind.f64.format.order x 0 == some .lt) (an1 (angO y x) (anC t)))) := Lib.hid (by rw [HW.out, ht])
        clear ht
        generalize anC t = cC at *
        generalize anB t = cB at *
        generalize anA t = cA at *
        generalize tt t = u at *
        go_wp2_with fail
        go_loopw [11, 12] (fun p k wr => ∃ n p', wr = w.drewN n ∧ p = .float .f64 p' ∧ ((k = .int .i64 (15) ∧ p' = pA u 0) ∨ (k = .int .i64 (13) ∧ p' = pA u 1) ∨ (k = .int .i64 (11) ∧ p' = pA u 2) ∨ (k = .int .i64 (9) ∧ p' = pA u 3) ∨ (k = .int .i64 (7) ∧ p' = pA u 4) ∨ (k = .int .i64 (5) ∧ p' = pA u 5) ∨ (k = .int .i64 (3) ∧ p' = pA u 6) ∨ (k = .int .i64 (1) ∧ p' = pA u 7) ∨ (k = .int .i64 (-1) ∧ p' = pA u 8))) (fun _ k _ => (intOf k + 1).toNat)
        case atStart => exact ⟨_, _, (by first | rfl | simp only [World.drewN_drewN]), rfl, .inl ⟨rfl, rfl⟩⟩
        case round =>
          obtain ⟨n, p, rfl, rfl, hk⟩ := hrel
          rcases hk with ⟨rfl, hp⟩ | ⟨rfl, hp⟩ | ⟨rfl, hp⟩ | ⟨rfl, hp⟩ | ⟨rfl, hp⟩ | ⟨rfl, hp⟩ | ⟨rfl, hp⟩ | ⟨rfl, hp⟩ | ⟨rfl, hp⟩
          · obtain ⟨r, m, p', k, k', h1, h2, h3, h4, h5, h6, h7, h8, h9⟩ := pA_round IU.out 0 (by omega)
            rw [← hp] at h4
            have H6 := Lib.hid h6; have H8 := Lib.hid h8; clear h6 h8 hp
            have h2' : floatOfInt .f64 15 = k := h2
            clear h1 h2 h7 h9 kA1 kB1 kC1 ku
            go_wp2
            go_roundw
            case rel => exact ⟨_, _, (by first | rfl | simp only [World.drewN_drewN]), rfl, (.inr (.inl ⟨rfl, H6.out⟩))⟩
            case measure => simp [intOf]
          · obtain ⟨r, m, p', k, k', h1, h2, h3, h4, h5, h6, h7, h8, h9⟩ := pA_round IU.out 1 (by omega)
            rw [← hp] at h4
            have H6 := Lib.hid h6; have H8 := Lib.hid h8; clear h6 h8 hp
            have h2' : floatOfInt .f64 13 = k := h2
            clear h1 h2 h7 h9 kA1 kB1 kC1 ku
            go_wp2
            go_roundw
            case rel => exact ⟨_, _, (by first | rfl | simp only [World.drewN_drewN]), rfl, (.inr (.inr (.inl ⟨rfl, H6.out⟩)))⟩
            case measure => simp [intOf]
          · obtain ⟨r, m, p', k, k', h1, h2, h3, h4, h5, h6, h7, h8, h9⟩ := pA_round IU.out 2 (by omega)
            rw [← hp] at h4
            have H6 := Lib.hid h6; have H8 := Lib.hid h8; clear h6 h8 hp
            have h2' : floatOfInt .f64 11 = k := h2
            clear h1 h2 h7 h9 kA1 kB1 kC1 ku
            go_wp2
            go_roundw
            case rel => exact ⟨_, _, (by first | rfl | simp only [World.drewN_drewN]), rfl, (.inr (.inr (.inr (.inl ⟨rfl, H6.out⟩))))⟩
            case measure => simp [intOf]
          · obtain ⟨r, m, p', k, k', h1, h2, h3, h4, h5, h6, h7, h8, h9⟩ := pA_round IU.out 3 (by omega)
            rw [← hp] at h4
            have H6 := Lib.hid h6; have H8 := Lib.hid h8; clear h6 h8 hp
            have h2' : floatOfInt .f64 9 = k := h2
            clear h1 h2 h7 h9 kA1 kB1 kC1 ku
            go_wp2
            go_roundw
            case rel => exact ⟨_, _, (by first | rfl | simp only [World.drewN_drewN]), rfl, (.inr (.inr (.inr (.inr (.inl ⟨rfl, H6.out⟩)))))⟩
            case measure => simp [intOf]
          · obtain ⟨r, m, p', k, k', h1, h2, h3, h4, h5, h6, h7, h8, h9⟩ := pA_round IU.out 4 (by omega)
            rw [← hp] at h4
            have H6 := Lib.hid h6; have H8 := Lib.hid h8; clear h6 h8 hp
            have h2' : floatOfInt .f64 7 = k := h2
            clear h1 h2 h7 h9 kA1 kB1 kC1 ku
            go_wp2
            go_roundw
            case rel => exact ⟨_, _, (by first | rfl | simp only [World.drewN_drewN]), rfl, (.inr (.inr (.inr (.inr (.inr (.inl ⟨rfl, H6.out⟩))))))⟩
            case measure => simp [intOf]
          · obtain ⟨r, m, p', k, k', h1, h2, h3, h4, h5, h6, h7, h8, h9⟩ := pA_round IU.out 5 (by omega)
            rw [← hp] at h4
            have H6 := Lib.hid h6; have H8 := Lib.hid h8; clear h6 h8 hp
            have h2' : floatOfInt .f64 5 = k := h2
            clear h1 h2 h7 h9 kA1 kB1 kC1 ku
            go_wp2
            go_roundw
            case rel => exact ⟨_, _, (by first | rfl | simp only [World.drewN_drewN]), rfl, (.inr (.inr (.inr (.inr (.inr (.inr (.inl ⟨rfl, H6.out⟩)))))))⟩
            case measure => simp [intOf]
          · obtain ⟨r, m, p', k, k', h1, h2, h3, h4, h5, h6, h7, h8, h9⟩ := pA_round IU.out 6 (by omega)
            rw [← hp] at h4
            have H6 := Lib.hid h6; have H8 := Lib.hid h8; clear h6 h8 hp
            have h2' : floatOfInt .f64 3 = k := h2
            clear h1 h2 h7 h9 kA1 kB1 kC1 ku
            go_wp2
            go_roundw
            case rel => exact ⟨_, _, (by first | rfl | simp only [World.drewN_drewN]), rfl, (.inr (.inr (.inr (.inr (.inr (.inr (.inr (.inl ⟨rfl, H6.out⟩))))))))⟩
            case measure => simp [intOf]
          · obtain ⟨r, m, p', k, k', h1, h2, h3, h4, h5, h6, h7, h8, h9⟩ := pA_round IU.out 7 (by omega)
            rw [← hp] at h4
            have H6 := Lib.hid h6; have H8 := Lib.hid h8; clear h6 h8 hp
            have h2' : floatOfInt .f64 1 = k := h2
            clear h1 h2 h7 h9 kA1 kB1 kC1 ku
            go_wp2
            go_roundw
            case rel => exact ⟨_, _, (by first | rfl | simp only [World.drewN_drewN]), rfl, (.inr (.inr (.inr (.inr (.inr (.inr (.inr (.inr (⟨rfl, H6.out⟩)))))))))⟩
            case measure => simp [intOf]
          · rw [← hp] at kA1
            clear hp ku
            have hO : angO y x = false := c1
            have HT2 : Hid (angW y x = an3 (FloatKind.f64.format.order y 0 == some .lt) (an2 (FloatKind.f64.format.order x 0 == some .lt) cC)) := Lib.hid (by rw [HT.out, hO]; rfl)
            have G1 : Hid (In (some cC) (-42) 42) := Lib.hid (an1_in false IC.out).2
            clear hO HT IC
            cases xl : (FloatKind.f64.format.order x 0 == some .lt)
            · have HT3 : Hid (angW y x = an3 (FloatKind.f64.format.order y 0 == some .lt) cC) := Lib.hid (by rw [HT2.out, xl]; rfl)
              have G2 : Hid (In (some cC) (-44) 44) := Lib.hid (an2_in false G1.out).2
              clear HT2 G1
              cases yl : (FloatKind.f64.format.order y 0 == some .lt)
              · have HT4 : Hid (angW y x = cC) := Lib.hid (by rw [HT3.out, yl]; rfl)
                go_wp2
                go_ret
                exact .mk' _ (float_congr HT4.out.symm) rfl
              · have HT4 : Hid (angW y x = Op.negFloat .f64 cC) := Lib.hid (by rw [HT3.out, yl]; rfl)
                go_wp2
                go_ret
                exact .mk' _ (float_congr HT4.out.symm) rfl
            · obtain ⟨f2, g2⟩ := an2_in true G1.out
              have f2 := f2 rfl
              have HT3 : Hid (angW y x = an3 (FloatKind.f64.format.order y 0 == some .lt) (opw .sub 0x3FE0000000000000 cC)) := Lib.hid (by rw [HT2.out, xl]; rfl)
              have G2 : Hid (In (some (opw .sub 0x3FE0000000000000 cC)) (-44) 44) := Lib.hid g2
              clear g2 HT2 G1
              generalize opw .sub 0x3FE0000000000000 cC = v2 at *
              cases yl : (FloatKind.f64.format.order y 0 == some .lt)
              · have HT4 : Hid (angW y x = v2) := Lib.hid (by rw [HT3.out, yl]; rfl)
                go_wp2
                go_ret
                exact .mk' _ (float_congr HT4.out.symm) rfl
              · have HT4 : Hid (angW y x = Op.negFloat .f64 v2) := Lib.hid (by rw [HT3.out, yl]; rfl)
                go_wp2
                go_ret
                exact .mk' _ (float_congr HT4.out.symm) rfl

end Go.Proofs.Ytjpbimfnppmbcaa
