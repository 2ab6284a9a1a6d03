/- The law on circles, walked. -/
import Derived.Test.YtjpbimfnppmbcaaNch
namespace Go.Proofs.Ytjpbimfnppmbcaa
open Fl Go.RowKit Ieee

theorem tmod16 {x : Nat} (h : ((x : Int) - 128).tmod 16 = 0) : x % 16 = 0 := by
  have := Int.dvd_of_tmod_eq_zero h
  omega
theorem tmod16' {x : Nat} (h : x % 16 = 0) : ((x : Int) - 128).tmod 16 = 0 := Int.tmod_eq_zero_of_dvd (by omega)

set_option maxRecDepth 20000 in
set_option maxHeartbeats 3200000 in
theorem law_FnCircles (w : World) (v0 v1 : Value) (code more : List Int) (h0 : BS w v0 code) (h1 : BS w v1 more) :
    Calls Try.prog 12 #[v0, v1] w (RetB (.bool true) w) := by
  have B0 := Lib.hid h0; have B1 := Lib.hid h1
  obtain ⟨a0, l0, c0, rfl⟩ := h0.sl.shape
  obtain ⟨a1, l1, c1, rfl⟩ := h1.sl.shape
  obtain ⟨rfl, _, _⟩ := h0.sl.at
  obtain ⟨rfl, _, _⟩ := h1.sl.at
  clear h0 h1
  obtain ⟨lg, hlg⟩ : ∃ b, (decide (1048576 < (code.length : Int)) || decide (1048576 < (more.length : Int))) = b := ⟨_, rfl⟩
  have HLG := Lib.hid hlg
  cases lg
  · have HL : Hid (code.length ≤ 1048576 ∧ more.length ≤ 1048576) := Lib.hid (by simp at hlg; omega)
    clear hlg
    go_enter Try.func12, Try.ntmps12
    go_wp2_with fail
    refine (laws_b10Long _ _ _ _ _ _ _).mono ?_
    rintro e w1 ⟨rfl, n1, hw⟩
    rw [HLG.out]
    have HB : Hid (Below w.heap.size w w1) := Lib.hid (by rw [hw]; exact below_dn (Below.refl _ _) _)
    clear hw
    go_wp2_with fail
    refine (laws_b10At _ _ code (B0.out.later HB.out) 0 (by decide) 256 (by decide) (by decide)).mono ?_
    rintro e w2 ⟨x, rfl, hx, rfl⟩
    have HX := Lib.hid hx
    have hxi : (x : Int) < 256 := by omega
    clear hx
    go_wp2_with fail
    refine (laws_b10At _ _ code (B0.out.later HB.out) 1 (by decide) 256 (by decide) (by decide)).mono ?_
    rintro e w3 ⟨y, rfl, hy, rfl⟩
    have HY := Lib.hid hy
    have hyi : (y : Int) < 256 := by omega
    clear hy
    obtain ⟨Y1, y1, c1'⟩ := y_at x HX.out
    obtain ⟨Y2, y2, c2'⟩ := y_at y HY.out
    obtain ⟨Y3, y3, c3'⟩ := y_sum x y HX.out HY.out
    have C1 := Lib.hid c1'; have C2 := Lib.hid c2'; have C3 := Lib.hid c3'
    clear c1' c2' c3'
    go_wp2_with fail
    refine (C1.out _).mono ?_
    rintro e w4 ⟨rfl, n4, hw⟩
    clear y1 C1
    replace HB : Hid (Below w.heap.size w w4) := Lib.hid (by rw [hw]; first | exact below_dn HB.out _ | exact below_dn (below_dn HB.out _) _)
    clear hw
    go_wp2_with fail
    refine (C2.out _).mono ?_
    rintro e w5 ⟨rfl, n5, hw⟩
    clear y2 C2
    replace HB : Hid (Below w.heap.size w w5) := Lib.hid (by rw [hw]; first | exact below_dn HB.out _ | exact below_dn (below_dn HB.out _) _)
    clear hw
    go_wp2_with fail
    refine (C3.out _).mono ?_
    rintro e w6 ⟨rfl, n6, hw⟩
    clear y3 C3
    replace HB : Hid (Below w.heap.size w w6) := Lib.hid (by rw [hw]; first | exact below_dn HB.out _ | exact below_dn (below_dn HB.out _) _)
    clear hw
    go_wp2_with fail
    refine (angle_at (x % 64) (Nat.mod_lt _ (by decide)) _).mono ?_
    rintro e w7 ⟨rfl, hb⟩
    replace HB : Hid (Below w.heap.size w w7) := Lib.hid (by first | exact HB.out.trans (hb.mono HB.out.size) | exact (below_dn HB.out _).trans (hb.mono (below_dn HB.out _).size))
    clear hb
    obtain ⟨tf, t1, t2, t3, t4, ⟨t5, t6, t7, t8⟩, t9, t10⟩ := turn_ok HX.out
    have T9 := Lib.hid t9; have T10 := Lib.hid t10
    have tc : ∀ w, cv .f32 (aW (x % 64)) .f64 w = tr .f32 .f64 (aW (x % 64)) := cv_tr tf
    have kc : ∀ w, (convert 26 2 (.float .f64 (t3W x))).run Try.prog w = .ok (.int .i64 (wI x)) w := fun w => run_convert_float_int w _ _ _ _ _ _ (by kernel_rfl) (by kernel_rfl) t4
    clear tf t4 t9 t10
    go_wp2_with fail
    refine (power_at (x % 64) (Nat.mod_lt _ (by decide)) _).mono ?_
    rintro e w8 ⟨rfl, n8, hw⟩
    clear t1 t2 t3 tc kc
    replace HB : Hid (Below w.heap.size w w8) := Lib.hid (by rw [hw]; first | exact below_dn HB.out _ | exact below_dn (below_dn HB.out _) _)
    clear hw
    obtain ⟨_, _, pf, pj⟩ := pw_ok (r := x % 64) (Nat.mod_lt _ (by decide))
    have pc : ∀ w, cv .f32 (pwW (x % 64)) .f64 w = tr .f32 .f64 (pwW (x % 64)) := cv_tr pf
    have PJ := Lib.hid pj
    clear pf pj
    go_wp2_with fail
    refine (laws_b10Gap (tr .f32 .f64 (pwW (x % 64))) 4607182418800017408 0 100000000 PJ.out.fin one_jn'.fin (by rw [Int.zero_mul]; omega) (gap_of PJ.out one_jn' (by decide) (by decide)) (okf_of (by decide) (by decide)) (okf_of (by decide) (by decide)) _).mono ?_
    rintro e w9 ⟨g1, rfl, hg, n9, hw⟩
    have o1 := gt_no hg small_jn (by decide)
    clear hg pc PJ
    replace HB : Hid (Below w.heap.size w w9) := Lib.hid (by rw [hw]; first | exact below_dn HB.out _ | exact below_dn (below_dn HB.out _) _)
    clear hw
    go_wp2_with fail
    refine (product_at (x % 64) (y % 64) (Nat.mod_lt _ (by decide)) (Nat.mod_lt _ (by decide)) _).mono ?_
    rintro e w10 ⟨m1, m2, rfl, ⟨mf1, mj1⟩, ⟨mf2, mj2⟩, n10, hw⟩
    rw [← Nat.add_mod] at mj1 mj2
    have M1 := Lib.hid mj1; have M2 := Lib.hid mj2; have F1 := Lib.hid mf1; have F2 := Lib.hid mf2
    clear mj1 mj2 mf1 mf2 o1
    replace HB : Hid (Below w.heap.size w w10) := Lib.hid (by rw [hw]; first | exact below_dn HB.out _ | exact below_dn (below_dn HB.out _) _)
    clear hw
    obtain ⟨_, ⟨ef1, ef2⟩, ⟨ej1, ej2⟩, _⟩ := ex_ok (r := (x + y) % 64) (Nat.mod_lt _ (by decide))
    have E1' := Lib.hid ef1; have E2' := Lib.hid ef2; have J1 := Lib.hid ej1; have J2 := Lib.hid ej2
    clear ef1 ef2 ej1 ej2
    go_wp2_with fail
    refine (laws_b10Near m1 m2 _ _ _ _ F1.out F2.out E1'.out E2'.out M1.out M2.out J1.out J2.out _).mono ?_
    rintro e w11 ⟨rfl, n11, hw⟩
    clear M1 M2 F1 F2 E1' E2' J1 J2
    replace HB : Hid (Below w.heap.size w w11) := Lib.hid (by rw [hw]; first | exact below_dn HB.out _ | exact below_dn (below_dn HB.out _) _)
    clear hw
    go_wp2_with fail
    refine (laws_b10Gap (t2W x) (floatOfInt .f64 (wI x - 10000)) 0 1000000000 T9.out.fin T10.out.fin (by rw [Int.zero_mul]; omega) (gap_of T9.out T10.out (by omega) (by omega)) (okf_of (by decide) (by decide)) (okf_of (by decide) (by decide)) _).mono ?_
    rintro e w12 ⟨g2, rfl, hg, n12, hw⟩
    have o2 := gt_no hg mil_jn (by decide)
    clear hg T9 T10
    replace HB : Hid (Below w.heap.size w w12) := Lib.hid (by rw [hw]; first | exact below_dn HB.out _ | exact below_dn (below_dn HB.out _) _)
    clear hw
    obtain ⟨_, ⟨rf, _⟩, ⟨rj, _⟩, _⟩ := ex_ok (r := x % 64) (Nat.mod_lt _ (by decide))
    have rc : ∀ w, cv .f32 (pR (x % 64)) .f64 w = tr .f32 .f64 (pR (x % 64)) := cv_tr rf
    have RJ := Lib.hid rj
    clear rf rj
    by_cases h16 : x % 16 = 0
    · have r16 : ((x : Int) - 128).tmod 16 = 0 := tmod16' h16
      rcases quarter_at h16 with hq | hq
      · go_wp2_with fail
        refine (laws_b10Gap (tr .f32 .f64 (pR (x % 64))) 0 0 0 RJ.out.fin zero_jn.fin (by rw [gap_ex RJ.out, hq]; exact Int.le_refl _) (by rw [gap_ex RJ.out, hq]; exact Int.le_refl _) (okf_of (by decide) (by decide)) (okf_of (by decide) (by decide)) _).mono ?_
        rintro e w13 ⟨g3, rfl, hg, n13, hw⟩
        have o3 := ne_no hg zero_jn
        clear hg RJ
        replace HB : Hid (Below w.heap.size w w13) := Lib.hid (by rw [hw]; first | exact below_dn HB.out _ | exact below_dn (below_dn HB.out _) _)
        clear hw
        go_wp2_with fail
        refine (laws_b10At _ _ more (B1.out.later HB.out) 0 (by decide) 200 (by decide) (by decide)).mono ?_
        rintro e w15 ⟨k, rfl, hk, hw⟩
        have HK := Lib.hid hk
        have hki : (k : Int) < 200 := by omega
        clear hk
        replace HB : Hid (Below w.heap.size w w15) := Lib.hid (by rw [hw]; first | exact HB.out | exact below_dn HB.out _)
        clear hw
        obtain ⟨x1, x1q⟩ := x_at k HK.out
        have X1 := Lib.hid x1q
        clear x1q
        go_wp2_with fail
        refine (laws_b10At _ _ more (B1.out.later (below_dn HB.out _)) 1 (by decide) 200 (by decide) (by decide)).mono ?_
        rintro e w16 ⟨l, rfl, hl, hw⟩
        have HLL := Lib.hid hl
        have hli : (l : Int) < 200 := by omega
        clear hl
        replace HB : Hid (Below w.heap.size w w16) := Lib.hid (by rw [hw]; first | exact HB.out | exact below_dn HB.out _)
        clear hw
        obtain ⟨x2, x2q⟩ := x_at l HLL.out
        have X2 := Lib.hid x2q
        clear x2q
        obtain ⟨Z, x3, x3q⟩ := mul_at (m := k + 1) (n := l + 1) (by omega) (by omega) (by have := HK.out; omega) (by have := HLL.out; omega) X1.out X2.out
        have X3 := Lib.hid x3q
        clear x3q
        have LW := Lib.hid (ten_law (m := k + 1) (n := l + 1) (by omega) (by omega) (by have := HK.out; omega) (by have := HLL.out; omega) X1.out X2.out X3.out)
        go_wp2_with fail
        refine (impl_TenthsOf _ _).mono ?_
        rintro e w17 ⟨rfl, hb⟩
        rw [tenR_yes X1.out.1]
        replace HB : Hid (Below w.heap.size w w17) := Lib.hid (by first | exact HB.out.trans (hb.mono HB.out.size) | exact (below_dn HB.out _).trans (hb.mono (below_dn HB.out _).size))
        clear hb
        go_wp2_with fail
        refine (impl_TenthsOf _ _).mono ?_
        rintro e w18 ⟨rfl, hb⟩
        rw [tenR_yes X2.out.1]
        replace HB : Hid (Below w.heap.size w w18) := Lib.hid (by first | exact HB.out.trans (hb.mono HB.out.size) | exact (below_dn HB.out _).trans (hb.mono (below_dn HB.out _).size))
        clear hb
        go_wp2_with fail
        refine (impl_TenthsOf _ _).mono ?_
        rintro e w19 ⟨rfl, hb⟩
        rw [tenR_yes X3.out.1]
        replace HB : Hid (Below w.heap.size w w19) := Lib.hid (by first | exact HB.out.trans (hb.mono HB.out.size) | exact (below_dn HB.out _).trans (hb.mono (below_dn HB.out _).size))
        clear hb
        go_wp2_with fail
        refine (impl_TenthsOf _ _).mono ?_
        rintro e w20 ⟨rfl, hb⟩
        rw [tenR_yes ten_one.1, ten_one.2]
        clear x1 x2 x3
        replace HB : Hid (Below w.heap.size w w20) := Lib.hid (by first | exact HB.out.trans (hb.mono HB.out.size) | exact (below_dn HB.out _).trans (hb.mono (below_dn HB.out _).size))
        clear hb
        obtain ⟨lw1, lw2⟩ := LW.out
        obtain ⟨s1, s2⟩ := ten_sm X1.out.1
        obtain ⟨s3, s4⟩ := ten_sm X2.out.1
        obtain ⟨s5, s6⟩ := ten_sm X3.out.1
        clear LW X1 X2 X3
        generalize tenI (xW k) = T1 at *
        generalize tenI (xW l) = T2 at *
        generalize tenI Z = T3 at *
        go_wp2_with fail
        refine (impl_AngleOfB _ _ _).mono ?_
        rintro e w21 ⟨r, rfl, hc, hb⟩
        obtain rfl := of_cls (hc.trans ang_up)
        clear hc
        replace HB : Hid (Below w.heap.size w w21) := Lib.hid (by first | exact HB.out.trans (hb.mono HB.out.size) | exact (below_dn HB.out _).trans (hb.mono (below_dn HB.out _).size))
        clear hb
        go_wp2_with fail
        refine (spec_SameNumber _ _ (by unfold W32; decide) (by unfold W32; decide) _).mono ?_
        rintro e w22 ⟨rfl, n22, hw⟩
        rw [same_quarter]
        replace HB : Hid (Below w.heap.size w w22) := Lib.hid (by rw [hw]; first | exact below_dn HB.out _ | exact below_dn (below_dn HB.out _) _)
        clear hw
        go_wp2
        go_ret
        exact .mk' rfl HB.out
      · go_wp2_with fail
        refine (laws_b10Gap (tr .f32 .f64 (pR (x % 64))) 0 1099511627776 1099511627776 RJ.out.fin zero_jn.fin (by rw [gap_ex RJ.out, hq]; exact Int.le_refl _) (by rw [gap_ex RJ.out, hq]; exact Int.le_refl _) (okf_of (by decide) (by decide)) (okf_of (by decide) (by decide)) _).mono ?_
        rintro e w13 ⟨g3, rfl, hg, n13, hw⟩
        have o3 := ne_yes hg zero_jn (by decide)
        clear hg
        replace HB : Hid (Below w.heap.size w w13) := Lib.hid (by rw [hw]; first | exact below_dn HB.out _ | exact below_dn (below_dn HB.out _) _)
        clear hw
        go_wp2_with fail
        refine (laws_b10Gap (tr .f32 .f64 (pR (x % 64))) 0 1099511627776 1099511627776 RJ.out.fin zero_jn.fin (by rw [gap_ex RJ.out, hq]; exact Int.le_refl _) (by rw [gap_ex RJ.out, hq]; exact Int.le_refl _) (okf_of (by decide) (by decide)) (okf_of (by decide) (by decide)) _).mono ?_
        rintro e w14 ⟨g4, rfl, hg, n14, hw⟩
        have o4 := ne_no hg one_jn'
        clear hg RJ
        replace HB : Hid (Below w.heap.size w w14) := Lib.hid (by rw [hw]; first | exact below_dn HB.out _ | exact below_dn (below_dn HB.out _) _)
        clear hw
        go_wp2_with fail
        refine (laws_b10At _ _ more (B1.out.later HB.out) 0 (by decide) 200 (by decide) (by decide)).mono ?_
        rintro e w15 ⟨k, rfl, hk, hw⟩
        have HK := Lib.hid hk
        have hki : (k : Int) < 200 := by omega
        clear hk
        replace HB : Hid (Below w.heap.size w w15) := Lib.hid (by rw [hw]; first | exact HB.out | exact below_dn HB.out _)
        clear hw
        obtain ⟨x1, x1q⟩ := x_at k HK.out
        have X1 := Lib.hid x1q
        clear x1q
        go_wp2_with fail
        refine (laws_b10At _ _ more (B1.out.later (below_dn HB.out _)) 1 (by decide) 200 (by decide) (by decide)).mono ?_
        rintro e w16 ⟨l, rfl, hl, hw⟩
        have HLL := Lib.hid hl
        have hli : (l : Int) < 200 := by omega
        clear hl
        replace HB : Hid (Below w.heap.size w w16) := Lib.hid (by rw [hw]; first | exact HB.out | exact below_dn HB.out _)
        clear hw
        obtain ⟨x2, x2q⟩ := x_at l HLL.out
        have X2 := Lib.hid x2q
        clear x2q
        obtain ⟨Z, x3, x3q⟩ := mul_at (m := k + 1) (n := l + 1) (by omega) (by omega) (by have := HK.out; omega) (by have := HLL.out; omega) X1.out X2.out
        have X3 := Lib.hid x3q
        clear x3q
        have LW := Lib.hid (ten_law (m := k + 1) (n := l + 1) (by omega) (by omega) (by have := HK.out; omega) (by have := HLL.out; omega) X1.out X2.out X3.out)
        go_wp2_with fail
        refine (impl_TenthsOf _ _).mono ?_
        rintro e w17 ⟨rfl, hb⟩
        rw [tenR_yes X1.out.1]
        replace HB : Hid (Below w.heap.size w w17) := Lib.hid (by first | exact HB.out.trans (hb.mono HB.out.size) | exact (below_dn HB.out _).trans (hb.mono (below_dn HB.out _).size))
        clear hb
        go_wp2_with fail
        refine (impl_TenthsOf _ _).mono ?_
        rintro e w18 ⟨rfl, hb⟩
        rw [tenR_yes X2.out.1]
        replace HB : Hid (Below w.heap.size w w18) := Lib.hid (by first | exact HB.out.trans (hb.mono HB.out.size) | exact (below_dn HB.out _).trans (hb.mono (below_dn HB.out _).size))
        clear hb
        go_wp2_with fail
        refine (impl_TenthsOf _ _).mono ?_
        rintro e w19 ⟨rfl, hb⟩
        rw [tenR_yes X3.out.1]
        replace HB : Hid (Below w.heap.size w w19) := Lib.hid (by first | exact HB.out.trans (hb.mono HB.out.size) | exact (below_dn HB.out _).trans (hb.mono (below_dn HB.out _).size))
        clear hb
        go_wp2_with fail
        refine (impl_TenthsOf _ _).mono ?_
        rintro e w20 ⟨rfl, hb⟩
        rw [tenR_yes ten_one.1, ten_one.2]
        clear x1 x2 x3
        replace HB : Hid (Below w.heap.size w w20) := Lib.hid (by first | exact HB.out.trans (hb.mono HB.out.size) | exact (below_dn HB.out _).trans (hb.mono (below_dn HB.out _).size))
        clear hb
        obtain ⟨lw1, lw2⟩ := LW.out
        obtain ⟨s1, s2⟩ := ten_sm X1.out.1
        obtain ⟨s3, s4⟩ := ten_sm X2.out.1
        obtain ⟨s5, s6⟩ := ten_sm X3.out.1
        clear LW X1 X2 X3
        generalize tenI (xW k) = T1 at *
        generalize tenI (xW l) = T2 at *
        generalize tenI Z = T3 at *
        go_wp2_with fail
        refine (impl_AngleOfB _ _ _).mono ?_
        rintro e w21 ⟨r, rfl, hc, hb⟩
        obtain rfl := of_cls (hc.trans ang_up)
        clear hc
        replace HB : Hid (Below w.heap.size w w21) := Lib.hid (by first | exact HB.out.trans (hb.mono HB.out.size) | exact (below_dn HB.out _).trans (hb.mono (below_dn HB.out _).size))
        clear hb
        go_wp2_with fail
        refine (spec_SameNumber _ _ (by unfold W32; decide) (by unfold W32; decide) _).mono ?_
        rintro e w22 ⟨rfl, n22, hw⟩
        rw [same_quarter]
        replace HB : Hid (Below w.heap.size w w22) := Lib.hid (by rw [hw]; first | exact below_dn HB.out _ | exact below_dn (below_dn HB.out _) _)
        clear hw
        go_wp2
        go_ret
        exact .mk' rfl HB.out
    · have r16 : ¬ ((x : Int) - 128).tmod 16 = 0 := fun q => h16 (tmod16 q)
      go_wp2_with fail
      refine (laws_b10At _ _ more (B1.out.later HB.out) 0 (by decide) 200 (by decide) (by decide)).mono ?_
      rintro e w15 ⟨k, rfl, hk, hw⟩
      have HK := Lib.hid hk
      have hki : (k : Int) < 200 := by omega
      clear hk
      replace HB : Hid (Below w.heap.size w w15) := Lib.hid (by rw [hw]; first | exact HB.out | exact below_dn HB.out _)
      clear hw
      obtain ⟨x1, x1q⟩ := x_at k HK.out
      have X1 := Lib.hid x1q
      clear x1q
      go_wp2_with fail
      refine (laws_b10At _ _ more (B1.out.later (below_dn HB.out _)) 1 (by decide) 200 (by decide) (by decide)).mono ?_
      rintro e w16 ⟨l, rfl, hl, hw⟩
      have HLL := Lib.hid hl
      have hli : (l : Int) < 200 := by omega
      clear hl
      replace HB : Hid (Below w.heap.size w w16) := Lib.hid (by rw [hw]; first | exact HB.out | exact below_dn HB.out _)
      clear hw
      obtain ⟨x2, x2q⟩ := x_at l HLL.out
      have X2 := Lib.hid x2q
      clear x2q
      obtain ⟨Z, x3, x3q⟩ := mul_at (m := k + 1) (n := l + 1) (by omega) (by omega) (by have := HK.out; omega) (by have := HLL.out; omega) X1.out X2.out
      have X3 := Lib.hid x3q
      clear x3q
      have LW := Lib.hid (ten_law (m := k + 1) (n := l + 1) (by omega) (by omega) (by have := HK.out; omega) (by have := HLL.out; omega) X1.out X2.out X3.out)
      go_wp2_with fail
      refine (impl_TenthsOf _ _).mono ?_
      rintro e w17 ⟨rfl, hb⟩
      rw [tenR_yes X1.out.1]
      replace HB : Hid (Below w.heap.size w w17) := Lib.hid (by first | exact HB.out.trans (hb.mono HB.out.size) | exact (below_dn HB.out _).trans (hb.mono (below_dn HB.out _).size))
      clear hb
      go_wp2_with fail
      refine (impl_TenthsOf _ _).mono ?_
      rintro e w18 ⟨rfl, hb⟩
      rw [tenR_yes X2.out.1]
      replace HB : Hid (Below w.heap.size w w18) := Lib.hid (by first | exact HB.out.trans (hb.mono HB.out.size) | exact (below_dn HB.out _).trans (hb.mono (below_dn HB.out _).size))
      clear hb
      go_wp2_with fail
      refine (impl_TenthsOf _ _).mono ?_
      rintro e w19 ⟨rfl, hb⟩
      rw [tenR_yes X3.out.1]
      replace HB : Hid (Below w.heap.size w w19) := Lib.hid (by first | exact HB.out.trans (hb.mono HB.out.size) | exact (below_dn HB.out _).trans (hb.mono (below_dn HB.out _).size))
      clear hb
      go_wp2_with fail
      refine (impl_TenthsOf _ _).mono ?_
      rintro e w20 ⟨rfl, hb⟩
      rw [tenR_yes ten_one.1, ten_one.2]
      clear x1 x2 x3
      replace HB : Hid (Below w.heap.size w w20) := Lib.hid (by first | exact HB.out.trans (hb.mono HB.out.size) | exact (below_dn HB.out _).trans (hb.mono (below_dn HB.out _).size))
      clear hb
      obtain ⟨lw1, lw2⟩ := LW.out
      obtain ⟨s1, s2⟩ := ten_sm X1.out.1
      obtain ⟨s3, s4⟩ := ten_sm X2.out.1
      obtain ⟨s5, s6⟩ := ten_sm X3.out.1
      clear LW X1 X2 X3
      generalize tenI (xW k) = T1 at *
      generalize tenI (xW l) = T2 at *
      generalize tenI Z = T3 at *
      go_wp2_with fail
      refine (impl_AngleOfB _ _ _).mono ?_
      rintro e w21 ⟨r, rfl, hc, hb⟩
      obtain rfl := of_cls (hc.trans ang_up)
      clear hc
      replace HB : Hid (Below w.heap.size w w21) := Lib.hid (by first | exact HB.out.trans (hb.mono HB.out.size) | exact (below_dn HB.out _).trans (hb.mono (below_dn HB.out _).size))
      clear hb
      go_wp2_with fail
      refine (spec_SameNumber _ _ (by unfold W32; decide) (by unfold W32; decide) _).mono ?_
      rintro e w22 ⟨rfl, n22, hw⟩
      rw [same_quarter]
      replace HB : Hid (Below w.heap.size w w22) := Lib.hid (by rw [hw]; first | exact below_dn HB.out _ | exact below_dn (below_dn HB.out _) _)
      clear hw
      go_wp2
      go_ret
      exact .mk' rfl HB.out
  · clear hlg
    go_enter Try.func12, Try.ntmps12
    go_wp2_with fail
    refine (laws_b10Long _ _ _ _ _ _ _).mono ?_
    rintro e w1 ⟨rfl, n1, rfl⟩
    rw [HLG.out]
    go_wp2
    go_ret
    exact .mk' rfl (below_dn (Below.refl _ _) _)

end Go.Proofs.Ytjpbimfnppmbcaa
