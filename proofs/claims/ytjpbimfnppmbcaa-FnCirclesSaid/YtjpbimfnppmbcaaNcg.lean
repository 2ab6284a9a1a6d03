/- The small functions of the law on circles: gaps, what is near, angles, products. -/
import Derived.Test.YtjpbimfnppmbcaaNcp
import Derived.Test.YtjpbimfnppmbcaaNcb
namespace Go.Proofs.Ytjpbimfnppmbcaa
open Fl Go.RowKit Ieee

/-- The call returns a double between two numbers of the lattice. -/
def RetG (m d : Int) (w : World) (e : Ending) (w' : World) : Prop := ∃ g, e = .returned (.float .f64 g) ∧ Jn (some g) m d ∧ ∃ n, w' = w.drewN n
theorem gap_core {x y : Nat} {m d : Int} (fx : fin double x) (fy : fin double y) (h1 : m * Vf ≤ N double x - N double y) (h2 : N double x - N double y ≤ d * Vf) (om : okf m) (od : okf d) : (∀ w, fa .sub .f64 x y w = opw .sub x y) ∧ Jn (some (opw .sub x y)) m d := by
  obtain ⟨cf, cn⟩ := fw_spec om.1 om.2
  obtain ⟨df, dn⟩ := fw_spec od.1 od.2
  obtain ⟨z, hz, hlt, hf, z1, z2⟩ := sub_bd (f := double) (by decide) fx fy cf df (by rw [cn]; exact h1) (by rw [dn]; exact h2)
  have hz' : floatBits .sub .f64 x y = some z := hz
  refine ⟨fun w => ?_, ?_⟩
  · rw [fa_some hz', opw_some hz']
  · rw [opw_some hz']; exact ⟨z, rfl, hlt, hf, by rw [← cn]; exact z1, by rw [← dn]; exact z2⟩

theorem laws_b10Gap (x y : Nat) (m d : Int) (fx : fin double x) (fy : fin double y) (h1 : m * Vf ≤ ((N double x - N double y).natAbs : Int)) (h2 : ((N double x - N double y).natAbs : Int) ≤ d * Vf) (om : okf m) (od : okf d) (w : World) :
    Calls Try.prog 36 #[.float .f64 x, .float .f64 y] w (RetG m d w) := by
  have hlt := lt_N fx fy
  by_cases c : N double x < N double y
  · rw [decide_eq_true c] at hlt
    obtain ⟨k1, k2⟩ := gap_core (x := y) (y := x) fy fx (by omega) (by omega) om od
    have K2 := Lib.hid k2
    clear h1 h2 c k2 fx fy
    go_enter Try.func36, Try.ntmps36
    go_wp2
    go_ret
    exact ⟨_, rfl, K2.out, _, rfl⟩
  · rw [decide_eq_false c] at hlt
    obtain ⟨k1, k2⟩ := gap_core (x := x) (y := y) fx fy (by omega) (by omega) om od
    have K2 := Lib.hid k2
    clear h1 h2 c k2 fx fy
    go_enter Try.func36, Try.ntmps36
    go_wp2
    go_ret
    exact ⟨_, rfl, K2.out, _, rfl⟩

theorem Jn.fin {x : Nat} {l h : Int} (hi : Jn (some x) l h) : Fl.fin double x := by obtain ⟨z, e, _, hf, _⟩ := hi; cases e; exact hf
theorem Jn.lt {x : Nat} {l h : Int} (hi : Jn (some x) l h) : x < 2 ^ 64 := by obtain ⟨z, e, hl, _⟩ := hi; cases e; exact hl
theorem Jn.lo {x : Nat} {l h : Int} (hi : Jn (some x) l h) : l * Vf ≤ N double x := by obtain ⟨z, e, _, _, a, _⟩ := hi; cases e; exact a
theorem Jn.hi {x : Nat} {l h : Int} (hi : Jn (some x) l h) : N double x ≤ h * Vf := by obtain ⟨z, e, _, _, _, a⟩ := hi; cases e; exact a
theorem gap_of {x y : Nat} {l1 h1 k d : Int} (hx : Jn (some x) l1 h1) (hy : Jn (some y) k k) (e1 : k - l1 ≤ d) (e2 : h1 - k ≤ d) : ((N double x - N double y).natAbs : Int) ≤ d * Vf := by
  have a := hx.lo
  have b := hx.hi
  have c := hy.lo
  have f := hy.hi
  have v := Vf_pos
  have q1 := Int.mul_le_mul_of_nonneg_right e1 (Int.le_of_lt v)
  have q2 := Int.mul_le_mul_of_nonneg_right e2 (Int.le_of_lt v)
  rw [Int.sub_mul] at q1 q2
  omega
theorem gt_no {g c : Nat} {m d l h : Int} (hg : Jn (some g) m d) (hc : Jn (some c) l h) (e : d ≤ l) : (FloatKind.f64.format.order g c == some .gt) = false := by
  rw [gt_N hg.fin hc.fin]
  have a := hg.hi
  have b := hc.lo
  have q := Int.mul_le_mul_of_nonneg_right e (Int.le_of_lt Vf_pos)
  exact decide_eq_false (by omega)
theorem le_yes {g c : Nat} {m d l h : Int} (hg : Jn (some g) m d) (hc : Jn (some c) l h) (e : d ≤ l) : (FloatKind.f64.format.order g c == some .lt || FloatKind.f64.format.order g c == some .eq) = true := by
  rw [le_N hg.fin hc.fin]
  have a := hg.hi
  have b := hc.lo
  have q := Int.mul_le_mul_of_nonneg_right e (Int.le_of_lt Vf_pos)
  exact decide_eq_true (by omega)
theorem ne_no {g c : Nat} {k : Int} (hg : Jn (some g) k k) (hc : Jn (some c) k k) : (FloatKind.f64.format.order g c != some .eq) = false := by
  rw [bne, eq_N hg.fin hc.fin, decide_eq_true (by have := hg.lo; have := hg.hi; have := hc.lo; have := hc.hi; omega)]
  rfl
theorem small_jn : Jn (some 4547007122018943789) 109951162 109951163 := jn_const (by decide +kernel)
theorem mil_jn : Jn (some 4562254508917369340) 1099511627 1099511628 := jn_const (by decide +kernel)
theorem one_jn' : Jn (some 4607182418800017408) 1099511627776 1099511627776 := jn_const (by decide +kernel)
theorem zero_jn : Jn (some 0) 0 0 := jn_const (by decide +kernel)

theorem laws_b10Near (m1 m2 r1 r2 : Nat) (k1 k2 : Int) (f1 : finb FloatKind.f32.format m1 = true) (f2 : finb FloatKind.f32.format m2 = true) (f3 : finb FloatKind.f32.format r1 = true) (f4 : finb FloatKind.f32.format r2 = true)
    (h1 : Jn (some (tr .f32 .f64 m1)) (k1 - 109000000) (k1 + 109000000)) (h2 : Jn (some (tr .f32 .f64 m2)) (k2 - 109000000) (k2 + 109000000)) (h3 : Jn (some (tr .f32 .f64 r1)) k1 k1) (h4 : Jn (some (tr .f32 .f64 r2)) k2 k2) (w : World) :
    Calls Try.prog 38 #[.complex .f32 m1 m2, .complex .f32 r1 r2, .float .f64 4547007122018943789] w (Ret (.bool true) w) := by
  have H1 := Lib.hid h1; have H2 := Lib.hid h2; have H3 := Lib.hid h3; have H4 := Lib.hid h4
  have w1 : ∀ w, cv .f32 m1 .f64 w = tr .f32 .f64 m1 := cv_tr f1
  have w2 : ∀ w, cv .f32 m2 .f64 w = tr .f32 .f64 m2 := cv_tr f2
  have w3 : ∀ w, cv .f32 r1 .f64 w = tr .f32 .f64 r1 := cv_tr f3
  have w4 : ∀ w, cv .f32 r2 .f64 w = tr .f32 .f64 r2 := cv_tr f4
  clear h1 h2 h3 h4 f1 f2 f3 f4
  generalize tr .f32 .f64 m1 = x1 at *
  generalize tr .f32 .f64 m2 = x2 at *
  generalize tr .f32 .f64 r1 = y1 at *
  generalize tr .f32 .f64 r2 = y2 at *
  go_enter Try.func38, Try.ntmps38
  go_wp2_with fail
  refine (laws_b10Gap x1 y1 0 109000000 H1.out.fin H3.out.fin (by rw [Int.zero_mul]; omega) (gap_of H1.out H3.out (by omega) (by omega)) (okf_of (by decide) (by decide)) (okf_of (by decide) (by decide)) _).mono ?_
  rintro e v1 ⟨g1, rfl, hg, n1, rfl⟩
  have o1 := le_yes hg small_jn (by decide)
  clear hg w1 w3
  go_wp2_with fail
  refine (laws_b10Gap x2 y2 0 109000000 H2.out.fin H4.out.fin (by rw [Int.zero_mul]; omega) (gap_of H2.out H4.out (by omega) (by omega)) (okf_of (by decide) (by decide)) (okf_of (by decide) (by decide)) _).mono ?_
  rintro e v2 ⟨g2, rfl, hg, n2, rfl⟩
  have o2 := le_yes hg small_jn (by decide)
  clear hg o1 w2 w4
  go_wp2
  go_ret
  exact .mk' _ rfl (by first | rfl | simp only [World.drewN_drewN])

theorem impl_AngleOfB (y x : Nat) (w : World) : Calls Try.prog 35 #[.complex .f32 x y] w (RetKB .f32 (angC y x) w) := by
  go_enter Try.func35, Try.ntmps35
  go_wp2_with fail
  refine (impl_AngleTurns _ _ _).mono ?_
  rintro e w1 ⟨r, rfl, hc, hb⟩
  have HC := Lib.hid hc; have HB := Lib.hid hb
  clear hc hb
  go_wp2
  go_ret
  exact .mk' HC.out HB.out

theorem of_cls {k : FloatKind} {r x : Nat} (h : cls k r = some x) : r = x := by
  unfold cls at h
  split at h
  · cases h
  · exact Option.some.inj h

theorem phasor_at (i : Nat) (h : i < 511) (w : World) : Calls Try.prog 27 #[.float .f64 (yW ((i : Int) - 256))] w (Ret (.complex .f32 (pR (i % 64)) (pI (i % 64))) w) := by
  obtain ⟨_, hy, hp⟩ := y_ok h
  refine (impl_PhasorOf _ hy w).mono ?_
  rintro e w' ⟨r, s, rfl, hr, hs, n, hw⟩
  rw [hp] at hr hs
  obtain rfl := of_cls hr
  obtain rfl := of_cls hs
  exact .mk' n rfl hw

theorem angle_at (r : Nat) (h : r < 64) (w : World) : Calls Try.prog 35 #[.complex .f32 (pR r) (pI r)] w (RetB (.float .f32 (aW r)) w) := by
  refine (impl_AngleOfB _ _ w).mono ?_
  rintro e w' ⟨s, rfl, hs, hb⟩
  obtain rfl := of_cls (hs.trans (ang_ok h))
  exact .mk' rfl hb

theorem power_at (r : Nat) (h : r < 64) (w : World) : Calls Try.prog 37 #[.complex .f32 (pR r) (pI r)] w (Ret (.float .f32 (pwW r)) w) := by
  obtain ⟨f, e, _, _⟩ := pw_ok h
  refine (impl_PowerOf _ _ f w).mono ?_
  rintro e w' ⟨s, rfl, hs, _, n, hw⟩
  obtain rfl := of_cls (hs.trans e)
  exact .mk' n rfl hw

theorem product_at (i j : Nat) (hi : i < 64) (hj : j < 64) (w : World) : Calls Try.prog 39 #[.complex .f32 (pR i) (pI i), .complex .f32 (pR j) (pI j)] w (fun e w' => ∃ m1 m2, e = .returned (.complex .f32 m1 m2) ∧
    (finb FloatKind.f32.format m1 = true ∧ Jn (some (tr .f32 .f64 m1)) (kRe ((i + j) % 64) - 109000000) (kRe ((i + j) % 64) + 109000000)) ∧ (finb FloatKind.f32.format m2 = true ∧ Jn (some (tr .f32 .f64 m2)) (kIm ((i + j) % 64) - 109000000) (kIm ((i + j) % 64) + 109000000)) ∧ ∃ n, w' = w.drewN n) := by
  obtain ⟨⟨f1, m1, e1, b1, j1⟩, f2, m2, e2, b2, j2⟩ := near_ok hi hj
  refine (impl_MulComplex _ _ _ _ f1 f2 w).mono ?_
  rintro e w' ⟨p, q, rfl, hp, hq, _, _, n, hw⟩
  obtain rfl := of_cls (hp.trans e1)
  obtain rfl := of_cls (hq.trans e2)
  exact ⟨_, _, rfl, ⟨b1, j1⟩, ⟨b2, j2⟩, n, hw⟩

end Go.Proofs.Ytjpbimfnppmbcaa
