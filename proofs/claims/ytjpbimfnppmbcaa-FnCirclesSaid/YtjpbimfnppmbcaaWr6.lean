/- Logarithms and tenths of decibels: the walks of the reference and of the program. -/
import Derived.Test.YtjpbimfnppmbcaaWr5
namespace Go.Proofs.Ytjpbimfnppmbcaa
open Fl Go.RowKit

/-- How often a number is doubled, and halved. -/
def lgU (y : Nat) : Nat := (4604930618986332160 - y + 4503599627370495) / 4503599627370496
def lgD (y : Nat) : Nat := if 4609434218613702656 ≤ y then (y - 4609434218613702656) / 4503599627370496 + 1 else 0
def lgM (y : Nat) : Nat := y + lgU y * 4503599627370496 - lgD y * 4503599627370496
def lgE (y : Nat) : Int := (lgD y : Int) - lgU y
def lgR (y : Nat) : Prop := 3000000000000000000 ≤ y ∧ y ≤ 5183643171103440896
theorem lg_cases {y : Nat} (h : lgR y) : (y < 4604930618986332160 ∧ lgD y = 0 ∧ 1 ≤ lgU y) ∨ (4604930618986332160 ≤ y ∧ lgU y = 0) := by
  obtain ⟨h1, h2⟩ := h
  unfold lgD lgU
  rcases Nat.lt_or_ge y 4604930618986332160 with q | q
  · left; refine ⟨q, by rw [if_neg (by omega)], by omega⟩
  · right; exact ⟨q, by omega⟩
theorem lgU_lt {y j : Nat} (h : lgR y) (hj : j < lgU y) : y + j * 4503599627370496 < 4604930618986332160 := by
  obtain ⟨h1, h2⟩ := h
  unfold lgU at hj; omega
theorem lgU_ge {y : Nat} (h : lgR y) : 4604930618986332160 ≤ y + lgU y * 4503599627370496 := by
  obtain ⟨h1, h2⟩ := h
  unfold lgU; omega
theorem lgD_ge {y j : Nat} (h : lgR y) (hj : j < lgD y) : 4609434218613702656 + j * 4503599627370496 ≤ y := by
  obtain ⟨h1, h2⟩ := h
  unfold lgD at hj
  split at hj <;> omega
theorem lgD_lt {y : Nat} (h : lgR y) : y < 4609434218613702656 + lgD y * 4503599627370496 := by
  obtain ⟨h1, h2⟩ := h
  unfold lgD
  split <;> omega
theorem lgU_max {y : Nat} (h : lgR y) : lgU y ≤ 400 := by
  obtain ⟨h1, h2⟩ := h
  unfold lgU; omega
theorem lgD_max {y : Nat} (h : lgR y) : lgD y ≤ 400 := by
  obtain ⟨h1, h2⟩ := h
  unfold lgD
  split <;> omega
theorem lgM_range {y : Nat} (h : lgR y) : 4604930618986332160 ≤ lgM y ∧ lgM y < 4609434218613702656 := by
  have hc := lg_cases h
  have a := lgU_ge h
  have b := lgD_lt h
  unfold lgM
  rcases hc with ⟨q, d0, u1⟩ | ⟨q, u0⟩
  · rw [d0] at b ⊢
    have := lgU_lt h (j := lgU y - 1) (by omega)
    omega
  · rw [u0] at a ⊢
    rcases Nat.eq_zero_or_pos (lgD y) with e | e
    · rw [e] at b ⊢; omega
    · have := lgD_ge h (j := lgD y - 1) (by omega)
      omega

theorem lt_inf {x : Nat} (h : x < 9218868437227405312) : x < Ieee.double.infRung := h
theorem lo75 {x : Nat} (h : x < 9218868437227405312) : (FloatKind.f64.format.order x 0x3FE8000000000000 == some .lt) = decide (x < 4604930618986332160) := pos_lt_N (lt_inf h) (lt_inf (by omega))
theorem hi150 {x : Nat} (h : x < 9218868437227405312) : (FloatKind.f64.format.order x 0x3FF8000000000000 == some .gt || FloatKind.f64.format.order x 0x3FF8000000000000 == some .eq) = decide (4609434218613702656 ≤ x) := pos_ge_N (lt_inf h) (lt_inf (by omega))
theorem dbl_fa {x : Nat} (h1 : 3000000000000000000 ≤ x) (h2 : x ≤ 5200000000000000000) (w : World) : fa .mul .f64 x 0x4000000000000000 w = x + 4503599627370496 := fa_some (dblw (x := x) (by unfold B52; omega) (lt_inf (by unfold B52; omega))) w
theorem half_fa {x : Nat} (h1 : 3100000000000000000 ≤ x) (h2 : x ≤ 5200000000000000000) (w : World) : fa .quo .f64 x 0x4000000000000000 w = x - 4503599627370496 := fa_some (halvew (x := x) (by unfold B52; omega) (lt_inf (by omega))) w
theorem lgM_in {y : Nat} (h : lgR y) : In (some (lgM y)) 3 6 := by
  obtain ⟨h1, h2⟩ := lgM_range h
  have e1 : N Ieee.double 4604930618986332160 = 3 * V := by decide +kernel
  have e2 : N Ieee.double 4609434218613702656 = 6 * V := by decide +kernel
  have hl := lt_inf (x := lgM y) (by omega)
  refine .of (by omega) (pos_fin hl) ?_ ?_
  · rw [← e1]; exact (pos_le (lt_inf (by omega)) hl).2 h1
  · rw [← e2]; exact (pos_le hl (lt_inf (by omega))).2 (by omega)
def fOf : Value → Nat
  | .float _ b => b
  | _ => 0

theorem q_round {u : Nat} (hu : In (some u) 0 1) (j : Nat) (hj : j < 13) : ∃ r m p' k k', k = kL j ∧ floatOfInt .f64 (kLI j) = k ∧ (∀ w, fa .quo .f64 0x3FF0000000000000 k w = r) ∧ (∀ w, fa .mul .f64 u (qL u j) w = m) ∧ (∀ w, fa .add .f64 r m w = p') ∧ p' = qL u (j + 1) ∧ (∀ w, fa .sub .f64 k 0x4000000000000000 w = k') ∧ k' = kL (j + 1) ∧
    (FloatKind.f64.format.order k 0x3FF0000000000000 == some .gt || FloatKind.f64.format.order k 0x3FF0000000000000 == some .eq) = true :=
  ⟨_, _, _, _, _, rfl, kL_int j hj, (rL_in j hj).1, (qL_up hu (qL_in hu j (by omega))).1, qL_step hj hu, rfl, fa_some (kL_sub j hj), rfl, kL_more j hj⟩

theorem math_IsInf (y : Nat) (h : (FloatKind.f64.format.order y 0x7FEFFFFFFFFFFFFF == some .gt) = false) (w : World) : Calls Try.prog 91 #[.float .f64 y, .int .i64 1] w (Ret (.bool false) w) := by
  go_enter Try.func91, Try.ntmps91
  go_wp2
  go_ret
  exact .mk' 0 rfl rfl

/-- How far the program's count is from its end. -/
def kLM (v : Value) : Nat := match v with
  | .float .f64 k => if k = kL 0 then 13 else if k = kL 1 then 12 else if k = kL 2 then 11 else if k = kL 3 then 10 else if k = kL 4 then 9 else if k = kL 5 then 8 else if k = kL 6 then 7 else if k = kL 7 then 6 else if k = kL 8 then 5 else if k = kL 9 then 4 else if k = kL 10 then 3 else if k = kL 11 then 2 else if k = kL 12 then 1 else 0
  | _ => 0

set_option maxHeartbeats 1600000 in
theorem impl_logarithm (y : Nat) (h : lgR y) (w : World) : Calls Try.prog 66 #[.float .f64 y] w (Ret (.float .f64 (lC (lgM y) (lgE y))) w) := by
  have HR := Lib.hid (lgM_range h); have HM := Lib.hid (lgM_in h); have HU := Lib.hid (lgU_max h); have HD := Lib.hid (lgD_max h)
  have HC := Lib.hid (lg_cases h); have H := Lib.hid h; clear h
  go_enter Try.func66, Try.ntmps66
  go_wp2_with fail
  go_loopw [0, 3] (fun x e wr => ∃ j n x' e' : Nat, j ≤ lgU y ∧ wr = w.drewN n ∧ x = .float .f64 x' ∧ x' = y + j * 4503599627370496 ∧ e = .float .f64 e' ∧ e' = eN (-(j : Int))) (fun x _ _ => 9300000000000000000 - fOf x)
  case atStart => exact ⟨0, 0, _, _, Nat.zero_le _, rfl, rfl, (by omega), rfl, (by decide +kernel)⟩
  case round =>
    obtain ⟨j, n, x', e', hj, rfl, rfl, hx, rfl, he⟩ := hrel
    have HX := Lib.hid hx; have HE := Lib.hid he; clear hx he
    have hxr : x' < 9218868437227405312 := by have := HX.out; have := H.out.1; have := H.out.2; have := HU.out; omega
    have hc := lo75 hxr
    have HXR := Lib.hid hxr; clear hxr
    by_cases hlt : j < lgU y
    · have hb : x' < 4604930618986332160 := by rw [HX.out]; exact lgU_lt H.out hlt
      rw [decide_eq_true hb] at hc
      have hd := dbl_fa (x := x') (by have := HX.out; have := H.out.1; omega) (by omega)
      have he := fa_some (eN_down j (by have := HU.out; omega))
      rw [← HE.out] at he
      have HJ := Lib.hid (show e' = eN (-(j : Int)) from HE.out)
      obtain ⟨x2, hx2⟩ : ∃ x2, x2 = x' + 4503599627370496 := ⟨_, rfl⟩
      obtain ⟨e2, he2⟩ : ∃ e2, e2 = eN (-((j + 1 : Nat) : Int)) := ⟨_, rfl⟩
      rw [← hx2] at hd
      rw [← he2] at he
      have HX2 := Lib.hid hx2; have HE2 := Lib.hid he2; have HB := Lib.hid hb; have HLT := Lib.hid hlt
      clear hx2 he2 hb hj hlt
      go_wp2
      go_roundw
      case rel => exact ⟨j + 1, _, _, _, HLT.out, (by first | rfl | simp only [World.drewN_drewN]), rfl, by have := HX2.out; have := HX.out; omega, rfl, HE2.out⟩
      case measure => have := HX2.out; have := HB.out; simp only [fOf]; omega
    · have hju : j = lgU y := by omega
      have hb : ¬ x' < 4604930618986332160 := by have hx := HX.out; have := lgU_ge H.out; rw [hju] at hx; omega
      rw [decide_eq_false hb] at hc
      have HE' := Lib.hid (show e' = eN (-(lgU y : Int)) by rw [HE.out, hju])
      have HX' := Lib.hid (show x' = y + lgU y * 4503599627370496 by rw [HX.out, hju])
      clear HX HE hlt hju hj hb HXR
      go_wp2_with fail
      go_loopw [0, 3] (fun x e wr => ∃ j n x2 e2 : Nat, j ≤ lgD y ∧ wr = w.drewN n ∧ x = .float .f64 x2 ∧ x2 + j * 4503599627370496 = y + lgU y * 4503599627370496 ∧ e = .float .f64 e2 ∧ e2 = eN ((j : Int) - lgU y)) (fun x _ _ => fOf x)
      case atStart => exact ⟨0, _, _, _, Nat.zero_le _, (by first | rfl | simp only [World.drewN_drewN]), rfl, by have := HX'.out; omega, rfl, (by rw [HE'.out]; congr 1 <;> omega)⟩
      case round =>
        obtain ⟨j, n, x2, e2, hj, rfl, rfl, hx, rfl, he⟩ := hrel
        have HX := Lib.hid hx; have HE := Lib.hid he; clear hx he
        have hxr : x2 < 9218868437227405312 := by have := HX.out; have := H.out.1; have := H.out.2; have := HU.out; omega
        have hc := hi150 hxr
        by_cases hlt : j < lgD y
        · have hu : lgU y = 0 := by rcases HC.out with ⟨_, q, _⟩ | ⟨_, q⟩ <;> omega
          have hb : 4609434218613702656 ≤ x2 := by have := HX.out; have := lgD_ge H.out hlt; rw [hu] at *; omega
          rw [decide_eq_true hb] at hc
          have hd := half_fa (x := x2) (by omega) (by have := HX.out; have := H.out.2; rw [hu] at *; omega)
          have he := fa_some (eN_up j (by have := HD.out; omega))
          have hE : e2 = eN (j : Int) := by rw [HE.out, hu]; congr 1 <;> omega
          rw [← hE] at he
          obtain ⟨x3, hx3⟩ : ∃ x3, x3 = x2 - 4503599627370496 := ⟨_, rfl⟩
          obtain ⟨e3, he3⟩ : ∃ e3, e3 = eN ((j + 1 : Nat) : Int) := ⟨_, rfl⟩
          rw [← hx3] at hd
          rw [← he3] at he
          have HX2 := Lib.hid hx3; have HE2 := Lib.hid he3; have HB := Lib.hid hb; have HLT := Lib.hid hlt; have HUZ := Lib.hid hu
          clear hx3 he3 hb hj hlt hE hu hxr
          go_wp2
          go_roundw
          case rel => exact ⟨j + 1, _, _, _, HLT.out, (by first | rfl | simp only [World.drewN_drewN]), rfl, by have := HX2.out; have := HX.out; have := HB.out; omega, rfl, by rw [HE2.out, HUZ.out]; congr 1 <;> omega⟩
          case measure => have := HX2.out; have := HB.out; simp only [fOf]; omega
        · have hju : j = lgD y := by omega
          have hb : ¬ 4609434218613702656 ≤ x2 := by
            have := HX.out; rw [hju] at this; have := HR.out.2; have := HR.out.1; unfold lgM at *; omega
          rw [decide_eq_false hb] at hc
          have hxm : x2 = lgM y := by have := HX.out; rw [hju] at this; unfold lgM; omega
          have hem : e2 = eN (lgE y) := by rw [HE.out, hju]; rfl
          subst hxm
          subst hem
          clear HX HE hlt hju hj hb hxr HX' HE'
          have I0 := HM.out
          have hE1 : -512 ≤ lgE y := by have := HU.out; have := HD.out; unfold lgE; omega
          have hE2 : lgE y ≤ 512 := by have := HU.out; have := HD.out; unfold lgE; omega
          obtain ⟨kA', _⟩ := sA_in I0
          obtain ⟨kB', _⟩ := sB_in I0
          obtain ⟨kC', _⟩ := sC_in I0
          obtain ⟨kU', iU⟩ := sU_in I0
          obtain ⟨kl1, _⟩ := lA_in I0
          obtain ⟨kl2, _⟩ := lB_in I0
          obtain ⟨kl3, _⟩ := lE_in hE1 hE2
          obtain ⟨kl4, _⟩ := lC_in I0 hE1 hE2
          have IU := Lib.hid iU
          clear I0 hE1 hE2 iU HR HM HU HD HC H
          generalize lC (lgM y) (lgE y) = rC at *
          generalize lE (lgE y) = rE at *
          generalize lB (lgM y) = rB at *
          generalize lA (lgM y) = rA' at *
          generalize sU (lgM y) = u at *
          generalize sC (lgM y) = c at *
          generalize sB (lgM y) = b at *
          generalize sA (lgM y) = a at *
          generalize eN (lgE y) = ew at *
          generalize lgM y = m at *
          go_wp2_with fail
          go_loopw [6, 7] (fun p k wr => ∃ n p', wr = w.drewN n ∧ p = .float .f64 p' ∧ ((k = .float .f64 (kL 0) ∧ p' = qL u 0) ∨ (k = .float .f64 (kL 1) ∧ p' = qL u 1) ∨ (k = .float .f64 (kL 2) ∧ p' = qL u 2) ∨ (k = .float .f64 (kL 3) ∧ p' = qL u 3) ∨ (k = .float .f64 (kL 4) ∧ p' = qL u 4) ∨ (k = .float .f64 (kL 5) ∧ p' = qL u 5) ∨ (k = .float .f64 (kL 6) ∧ p' = qL u 6) ∨ (k = .float .f64 (kL 7) ∧ p' = qL u 7) ∨ (k = .float .f64 (kL 8) ∧ p' = qL u 8) ∨ (k = .float .f64 (kL 9) ∧ p' = qL u 9) ∨ (k = .float .f64 (kL 10) ∧ p' = qL u 10) ∨ (k = .float .f64 (kL 11) ∧ p' = qL u 11) ∨ (k = .float .f64 (kL 12) ∧ p' = qL u 12) ∨ (k = .float .f64 (kL 13) ∧ p' = qL u 13))) (fun _ k _ => kLM k)
          case atStart => exact ⟨_, _, (by first | rfl | simp only [World.drewN_drewN]), rfl, .inl ⟨rfl, rfl⟩⟩
          case round =>
            obtain ⟨n, p, rfl, rfl, hk⟩ := hrel
            rcases hk with ⟨rfl, hp⟩ | ⟨rfl, hp⟩ | ⟨rfl, hp⟩ | ⟨rfl, hp⟩ | ⟨rfl, hp⟩ | ⟨rfl, hp⟩ | ⟨rfl, hp⟩ | ⟨rfl, hp⟩ | ⟨rfl, hp⟩ | ⟨rfl, hp⟩ | ⟨rfl, hp⟩ | ⟨rfl, hp⟩ | ⟨rfl, hp⟩ | ⟨rfl, hp⟩
            · obtain ⟨r, m', p', k, k', h1, h2, h3, h4, h5, h6, h7, h8, h9⟩ := q_round IU.out 0 (by omega)
              rw [← hp] at h4
              have H6 := Lib.hid h6; have H8 := Lib.hid h8; clear h6 h8 hp kA' kB' kC' kU' kl1 kl2 kl3 kl4
              rw [← h1]
              have H1 := Lib.hid h1
              clear h1 h2
              go_wp2
              go_roundw
              case rel => exact ⟨_, _, (by first | rfl | simp only [World.drewN_drewN]), rfl, (.inr (.inl ⟨by rw [H8.out], H6.out⟩))⟩
              case measure => rw [H1.out, H8.out]; decide
            · obtain ⟨r, m', p', k, k', h1, h2, h3, h4, h5, h6, h7, h8, h9⟩ := q_round IU.out 1 (by omega)
              rw [← hp] at h4
              have H6 := Lib.hid h6; have H8 := Lib.hid h8; clear h6 h8 hp kA' kB' kC' kU' kl1 kl2 kl3 kl4
              rw [← h1]
              have H1 := Lib.hid h1
              clear h1 h2
              go_wp2
              go_roundw
              case rel => exact ⟨_, _, (by first | rfl | simp only [World.drewN_drewN]), rfl, (.inr (.inr (.inl ⟨by rw [H8.out], H6.out⟩)))⟩
              case measure => rw [H1.out, H8.out]; decide
            · obtain ⟨r, m', p', k, k', h1, h2, h3, h4, h5, h6, h7, h8, h9⟩ := q_round IU.out 2 (by omega)
              rw [← hp] at h4
              have H6 := Lib.hid h6; have H8 := Lib.hid h8; clear h6 h8 hp kA' kB' kC' kU' kl1 kl2 kl3 kl4
              rw [← h1]
              have H1 := Lib.hid h1
              clear h1 h2
              go_wp2
              go_roundw
              case rel => exact ⟨_, _, (by first | rfl | simp only [World.drewN_drewN]), rfl, (.inr (.inr (.inr (.inl ⟨by rw [H8.out], H6.out⟩))))⟩
              case measure => rw [H1.out, H8.out]; decide
            · obtain ⟨r, m', p', k, k', h1, h2, h3, h4, h5, h6, h7, h8, h9⟩ := q_round IU.out 3 (by omega)
              rw [← hp] at h4
              have H6 := Lib.hid h6; have H8 := Lib.hid h8; clear h6 h8 hp kA' kB' kC' kU' kl1 kl2 kl3 kl4
              rw [← h1]
              have H1 := Lib.hid h1
              clear h1 h2
              go_wp2
              go_roundw
              case rel => exact ⟨_, _, (by first | rfl | simp only [World.drewN_drewN]), rfl, (.inr (.inr (.inr (.inr (.inl ⟨by rw [H8.out], H6.out⟩)))))⟩
              case measure => rw [H1.out, H8.out]; decide
            · obtain ⟨r, m', p', k, k', h1, h2, h3, h4, h5, h6, h7, h8, h9⟩ := q_round IU.out 4 (by omega)
              rw [← hp] at h4
              have H6 := Lib.hid h6; have H8 := Lib.hid h8; clear h6 h8 hp kA' kB' kC' kU' kl1 kl2 kl3 kl4
              rw [← h1]
              have H1 := Lib.hid h1
              clear h1 h2
              go_wp2
              go_roundw
              case rel => exact ⟨_, _, (by first | rfl | simp only [World.drewN_drewN]), rfl, (.inr (.inr (.inr (.inr (.inr (.inl ⟨by rw [H8.out], H6.out⟩))))))⟩
              case measure => rw [H1.out, H8.out]; decide
            · obtain ⟨r, m', p', k, k', h1, h2, h3, h4, h5, h6, h7, h8, h9⟩ := q_round IU.out 5 (by omega)
              rw [← hp] at h4
              have H6 := Lib.hid h6; have H8 := Lib.hid h8; clear h6 h8 hp kA' kB' kC' kU' kl1 kl2 kl3 kl4
              rw [← h1]
              have H1 := Lib.hid h1
              clear h1 h2
              go_wp2
              go_roundw
              case rel => exact ⟨_, _, (by first | rfl | simp only [World.drewN_drewN]), rfl, (.inr (.inr (.inr (.inr (.inr (.inr (.inl ⟨by rw [H8.out], H6.out⟩)))))))⟩
              case measure => rw [H1.out, H8.out]; decide
            · obtain ⟨r, m', p', k, k', h1, h2, h3, h4, h5, h6, h7, h8, h9⟩ := q_round IU.out 6 (by omega)
              rw [← hp] at h4
              have H6 := Lib.hid h6; have H8 := Lib.hid h8; clear h6 h8 hp kA' kB' kC' kU' kl1 kl2 kl3 kl4
              rw [← h1]
              have H1 := Lib.hid h1
              clear h1 h2
              go_wp2
              go_roundw
              case rel => exact ⟨_, _, (by first | rfl | simp only [World.drewN_drewN]), rfl, (.inr (.inr (.inr (.inr (.inr (.inr (.inr (.inl ⟨by rw [H8.out], H6.out⟩))))))))⟩
              case measure => rw [H1.out, H8.out]; decide
            · obtain ⟨r, m', p', k, k', h1, h2, h3, h4, h5, h6, h7, h8, h9⟩ := q_round IU.out 7 (by omega)
              rw [← hp] at h4
              have H6 := Lib.hid h6; have H8 := Lib.hid h8; clear h6 h8 hp kA' kB' kC' kU' kl1 kl2 kl3 kl4
              rw [← h1]
              have H1 := Lib.hid h1
              clear h1 h2
              go_wp2
              go_roundw
              case rel => exact ⟨_, _, (by first | rfl | simp only [World.drewN_drewN]), rfl, (.inr (.inr (.inr (.inr (.inr (.inr (.inr (.inr (.inl ⟨by rw [H8.out], H6.out⟩)))))))))⟩
              case measure => rw [H1.out, H8.out]; decide
            · obtain ⟨r, m', p', k, k', h1, h2, h3, h4, h5, h6, h7, h8, h9⟩ := q_round IU.out 8 (by omega)
              rw [← hp] at h4
              have H6 := Lib.hid h6; have H8 := Lib.hid h8; clear h6 h8 hp kA' kB' kC' kU' kl1 kl2 kl3 kl4
              rw [← h1]
              have H1 := Lib.hid h1
              clear h1 h2
              go_wp2
              go_roundw
              case rel => exact ⟨_, _, (by first | rfl | simp only [World.drewN_drewN]), rfl, (.inr (.inr (.inr (.inr (.inr (.inr (.inr (.inr (.inr (.inl ⟨by rw [H8.out], H6.out⟩))))))))))⟩
              case measure => rw [H1.out, H8.out]; decide
            · obtain ⟨r, m', p', k, k', h1, h2, h3, h4, h5, h6, h7, h8, h9⟩ := q_round IU.out 9 (by omega)
              rw [← hp] at h4
              have H6 := Lib.hid h6; have H8 := Lib.hid h8; clear h6 h8 hp kA' kB' kC' kU' kl1 kl2 kl3 kl4
              rw [← h1]
              have H1 := Lib.hid h1
              clear h1 h2
              go_wp2
              go_roundw
              case rel => exact ⟨_, _, (by first | rfl | simp only [World.drewN_drewN]), rfl, (.inr (.inr (.inr (.inr (.inr (.inr (.inr (.inr (.inr (.inr (.inl ⟨by rw [H8.out], H6.out⟩)))))))))))⟩
              case measure => rw [H1.out, H8.out]; decide
            · obtain ⟨r, m', p', k, k', h1, h2, h3, h4, h5, h6, h7, h8, h9⟩ := q_round IU.out 10 (by omega)
              rw [← hp] at h4
              have H6 := Lib.hid h6; have H8 := Lib.hid h8; clear h6 h8 hp kA' kB' kC' kU' kl1 kl2 kl3 kl4
              rw [← h1]
              have H1 := Lib.hid h1
              clear h1 h2
              go_wp2
              go_roundw
              case rel => exact ⟨_, _, (by first | rfl | simp only [World.drewN_drewN]), rfl, (.inr (.inr (.inr (.inr (.inr (.inr (.inr (.inr (.inr (.inr (.inr (.inl ⟨by rw [H8.out], H6.out⟩))))))))))))⟩
              case measure => rw [H1.out, H8.out]; decide
            · obtain ⟨r, m', p', k, k', h1, h2, h3, h4, h5, h6, h7, h8, h9⟩ := q_round IU.out 11 (by omega)
              rw [← hp] at h4
              have H6 := Lib.hid h6; have H8 := Lib.hid h8; clear h6 h8 hp kA' kB' kC' kU' kl1 kl2 kl3 kl4
              rw [← h1]
              have H1 := Lib.hid h1
              clear h1 h2
              go_wp2
              go_roundw
              case rel => exact ⟨_, _, (by first | rfl | simp only [World.drewN_drewN]), rfl, (.inr (.inr (.inr (.inr (.inr (.inr (.inr (.inr (.inr (.inr (.inr (.inr (.inl ⟨by rw [H8.out], H6.out⟩)))))))))))))⟩
              case measure => rw [H1.out, H8.out]; decide
            · obtain ⟨r, m', p', k, k', h1, h2, h3, h4, h5, h6, h7, h8, h9⟩ := q_round IU.out 12 (by omega)
              rw [← hp] at h4
              have H6 := Lib.hid h6; have H8 := Lib.hid h8; clear h6 h8 hp kA' kB' kC' kU' kl1 kl2 kl3 kl4
              rw [← h1]
              have H1 := Lib.hid h1
              clear h1 h2
              go_wp2
              go_roundw
              case rel => exact ⟨_, _, (by first | rfl | simp only [World.drewN_drewN]), rfl, (.inr (.inr (.inr (.inr (.inr (.inr (.inr (.inr (.inr (.inr (.inr (.inr (.inr (⟨by rw [H8.out], H6.out⟩))))))))))))))⟩
              case measure => rw [H1.out, H8.out]; decide
            · rw [← hp] at kl1
              clear hp
              have hm := kL_end
              generalize kL 13 = kk at *
              go_wp2
              go_ret
              exact .mk' _ rfl rfl

set_option maxHeartbeats 1600000 in
theorem spec_l01LogWide (y : Nat) (h : lgR y) (w : World) : Calls Try.prog 81 #[.float .f64 y] w (Ret (.float .f64 (lC (lgM y) (lgE y))) w) := by
  have hi := lt_inf (x := y) (by have := h.2; omega)
  have q1 : (FloatKind.f64.format.order y y != some .eq) = false := by rw [ne_self]; exact not_nan_of_fin (pos_fin hi)
  have q2 : (FloatKind.f64.format.order y 0 == some .lt) = false := by rw [pos_lt_N hi (lt_inf (by omega))]; exact decide_eq_false (by omega)
  have q3 : (FloatKind.f64.format.order y 0 == some .eq) = false := by
    rw [eq_N (pos_fin hi) zeroF, zeroN]; refine decide_eq_false ?_
    rw [pos_N hi]; have := num_pos (x := y) (by have := h.1; omega); omega
  have hq4 : (FloatKind.f64.format.order y 0x7FEFFFFFFFFFFFFF == some .gt) = false := by
    rw [gt_N (pos_fin hi) (pos_fin (lt_inf (by omega)))]; refine decide_eq_false ?_
    have := (pos_le hi (lt_inf (x := 0x7FEFFFFFFFFFFFFF) (by omega))).2 (by have := h.2; omega); omega
  have HQ := Lib.hid hq4
  have HR := Lib.hid (lgM_range h); have HM := Lib.hid (lgM_in h); have HU := Lib.hid (lgU_max h); have HD := Lib.hid (lgD_max h)
  have HC := Lib.hid (lg_cases h); have H := Lib.hid h; clear h hi hq4
  go_enter Try.func81, Try.ntmps81
  go_wp2_with fail
  refine (math_IsInf _ HQ.out _).mono ?_
  rintro e w' ⟨rfl, n0, rfl⟩
  go_wp2_with fail
  go_loopw [0, 3] (fun x e wr => ∃ j n x2 : Nat, j ≤ lgD y ∧ wr = w.drewN n ∧ x = .float .f64 x2 ∧ x2 + j * 4503599627370496 = y ∧ e = .int .i64 (j : Int)) (fun x _ _ => fOf x)
  case atStart => exact ⟨0, _, _, Nat.zero_le _, (by first | rfl | simp only [World.drewN_drewN]), rfl, by omega, rfl⟩
  case round =>
    obtain ⟨j, n, x2, hj, rfl, rfl, hx, rfl⟩ := hrel
    have HX := Lib.hid hx; clear hx
    have hxr : x2 < 9218868437227405312 := by have := HX.out; have := H.out.1; have := H.out.2; omega
    have hc := hi150 hxr
    by_cases hlt : j < lgD y
    · have hb : 4609434218613702656 ≤ x2 := by have := HX.out; have := lgD_ge H.out hlt; omega
      rw [decide_eq_true hb] at hc
      have hd := half_fa (x := x2) (by omega) (by have := HX.out; have := H.out.2; omega)
      have hj4 : (j : Int) < 400 := by have := HD.out; omega
      obtain ⟨x3, hx3⟩ : ∃ x3, x3 = x2 - 4503599627370496 := ⟨_, rfl⟩
      rw [← hx3] at hd
      have HX2 := Lib.hid hx3; have HB := Lib.hid hb; have HLT := Lib.hid hlt
      clear hx3 hb hj hlt hxr
      go_wp2
      go_roundw
      case rel => exact ⟨j + 1, _, _, HLT.out, (by first | rfl | simp only [World.drewN_drewN]), rfl, by have := HX2.out; have := HX.out; have := HB.out; omega, by go_num⟩
      case measure => have := HX2.out; have := HB.out; simp only [fOf]; omega
    · have hju : j = lgD y := by omega
      have hb : ¬ 4609434218613702656 ≤ x2 := by have h1 := HX.out; rw [hju] at h1; have := lgD_lt H.out; omega
      rw [decide_eq_false hb] at hc
      have HX' := Lib.hid (show x2 + lgD y * 4503599627370496 = y by rw [← hju]; exact HX.out)
      have hd4 : (lgD y : Int) ≤ 400 := by have := HD.out; omega
      subst hju
      clear HX hlt hj hb hxr
      go_wp2_with fail
      go_loopw [0, 3] (fun x e wr => ∃ j n x' : Nat, j ≤ lgU y ∧ wr = w.drewN n ∧ x = .float .f64 x' ∧ x' + lgD y * 4503599627370496 = y + j * 4503599627370496 ∧ e = .int .i64 ((lgD y : Int) - j)) (fun x _ _ => 9300000000000000000 - fOf x)
      case atStart => exact ⟨0, _, _, Nat.zero_le _, (by first | rfl | simp only [World.drewN_drewN]), rfl, by have := HX'.out; omega, by congr 1 <;> omega⟩
      case round =>
        obtain ⟨j, n, x', hj, rfl, rfl, hx, rfl⟩ := hrel
        have HX := Lib.hid hx; clear hx
        have hxr : x' < 9218868437227405312 := by have := HX.out; have := H.out.1; have := H.out.2; have := HU.out; omega
        have hc := lo75 hxr
        by_cases hlt : j < lgU y
        · have hu : lgD y = 0 := by rcases HC.out with ⟨_, q, _⟩ | ⟨_, q⟩ <;> omega
          have hb : x' < 4604930618986332160 := by have h1 := HX.out; have := lgU_lt H.out hlt; rw [hu] at h1; omega
          rw [decide_eq_true hb] at hc
          have hd := dbl_fa (x := x') (by have h1 := HX.out; have := H.out.1; rw [hu] at h1; omega) (by omega)
          have hj4 : (j : Int) < 400 := by have := HU.out; omega
          obtain ⟨x3, hx3⟩ : ∃ x3, x3 = x' + 4503599627370496 := ⟨_, rfl⟩
          rw [← hx3] at hd
          have HX2 := Lib.hid hx3; have HB := Lib.hid hb; have HLT := Lib.hid hlt; have HUZ := Lib.hid hu
          clear hx3 hb hj hlt hxr hu
          go_wp2
          go_roundw
          case rel => exact ⟨j + 1, _, _, HLT.out, (by first | rfl | simp only [World.drewN_drewN]), rfl, by have := HX2.out; have := HX.out; omega, by go_num⟩
          case measure => have := HX2.out; have := HB.out; simp only [fOf]; omega
        · have hju : j = lgU y := by omega
          have hb : ¬ x' < 4604930618986332160 := by have h1 := HX.out; rw [hju] at h1; have h2 := HR.out.1; have h3 := HR.out.2; unfold lgM at h2 h3; omega
          rw [decide_eq_false hb] at hc
          have hxm : x' = lgM y := by have h1 := HX.out; rw [hju] at h1; unfold lgM; omega
          have he : (lgD y : Int) - (j : Int) = lgE y := by rw [hju]; rfl
          subst hxm
          rw [he]
          clear HX hlt hju hj hb hxr HX' he hd4
          have I0 := HM.out
          have hE1 : -512 ≤ lgE y := by have := HU.out; have := HD.out; unfold lgE; omega
          have hE2 : lgE y ≤ 512 := by have := HU.out; have := HD.out; unfold lgE; omega
          have kE : floatOfInt .f64 (lgE y) = eN (lgE y) := rfl
          obtain ⟨kA', _⟩ := sA_in I0
          obtain ⟨kB', _⟩ := sB_in I0
          obtain ⟨kC', _⟩ := sC_in I0
          obtain ⟨kU', iU⟩ := sU_in I0
          obtain ⟨kl1, _⟩ := lA_in I0
          obtain ⟨kl2, _⟩ := lB_in I0
          obtain ⟨kl3, _⟩ := lE_in hE1 hE2
          obtain ⟨kl4, _⟩ := lC_in I0 hE1 hE2
          have IU := Lib.hid iU
          clear I0 hE1 hE2 iU HR HM HU HD HC H
          generalize lC (lgM y) (lgE y) = rC at *
          generalize lE (lgE y) = rE at *
          generalize lB (lgM y) = rB at *
          generalize lA (lgM y) = rA' at *
          generalize sU (lgM y) = u at *
          generalize sC (lgM y) = c at *
          generalize sB (lgM y) = b at *
          generalize sA (lgM y) = a at *
          generalize eN (lgE y) = ew at *
          generalize lgE y = ei at *
          generalize lgM y = m at *
          go_wp2_with fail
          go_loopw [6, 7] (fun p k wr => ∃ n p', wr = w.drewN n ∧ p = .float .f64 p' ∧ ((k = .int .i64 (25) ∧ p' = qL u 0) ∨ (k = .int .i64 (23) ∧ p' = qL u 1) ∨ (k = .int .i64 (21) ∧ p' = qL u 2) ∨ (k = .int .i64 (19) ∧ p' = qL u 3) ∨ (k = .int .i64 (17) ∧ p' = qL u 4) ∨ (k = .int .i64 (15) ∧ p' = qL u 5) ∨ (k = .int .i64 (13) ∧ p' = qL u 6) ∨ (k = .int .i64 (11) ∧ p' = qL u 7) ∨ (k = .int .i64 (9) ∧ p' = qL u 8) ∨ (k = .int .i64 (7) ∧ p' = qL u 9) ∨ (k = .int .i64 (5) ∧ p' = qL u 10) ∨ (k = .int .i64 (3) ∧ p' = qL u 11) ∨ (k = .int .i64 (1) ∧ p' = qL u 12) ∨ (k = .int .i64 (-1) ∧ p' = qL u 13))) (fun _ k _ => (intOf k + 1).toNat)
          case atStart => exact ⟨_, _, (by first | rfl | simp only [World.drewN_drewN]), rfl, .inl ⟨rfl, rfl⟩⟩
          case round =>
            obtain ⟨n, p, rfl, rfl, hk⟩ := hrel
            rcases hk with ⟨rfl, hp⟩ | ⟨rfl, hp⟩ | ⟨rfl, hp⟩ | ⟨rfl, hp⟩ | ⟨rfl, hp⟩ | ⟨rfl, hp⟩ | ⟨rfl, hp⟩ | ⟨rfl, hp⟩ | ⟨rfl, hp⟩ | ⟨rfl, hp⟩ | ⟨rfl, hp⟩ | ⟨rfl, hp⟩ | ⟨rfl, hp⟩ | ⟨rfl, hp⟩
            · obtain ⟨r, m', p', k, k', h1, h2, h3, h4, h5, h6, h7, h8, h9⟩ := q_round IU.out 0 (by omega)
              rw [← hp] at h4
              have H6 := Lib.hid h6; have H8 := Lib.hid h8; clear h6 h8 hp kA' kB' kC' kU' kl1 kl2 kl3 kl4
              have h2' : floatOfInt .f64 25 = k := h2
              clear h1 h2 h7 h9
              go_wp2
              go_roundw
              case rel => exact ⟨_, _, (by first | rfl | simp only [World.drewN_drewN]), rfl, (.inr (.inl ⟨rfl, H6.out⟩))⟩
              case measure => simp [intOf]
            · obtain ⟨r, m', p', k, k', h1, h2, h3, h4, h5, h6, h7, h8, h9⟩ := q_round IU.out 1 (by omega)
              rw [← hp] at h4
              have H6 := Lib.hid h6; have H8 := Lib.hid h8; clear h6 h8 hp kA' kB' kC' kU' kl1 kl2 kl3 kl4
              have h2' : floatOfInt .f64 23 = k := h2
              clear h1 h2 h7 h9
              go_wp2
              go_roundw
              case rel => exact ⟨_, _, (by first | rfl | simp only [World.drewN_drewN]), rfl, (.inr (.inr (.inl ⟨rfl, H6.out⟩)))⟩
              case measure => simp [intOf]
            · obtain ⟨r, m', p', k, k', h1, h2, h3, h4, h5, h6, h7, h8, h9⟩ := q_round IU.out 2 (by omega)
              rw [← hp] at h4
              have H6 := Lib.hid h6; have H8 := Lib.hid h8; clear h6 h8 hp kA' kB' kC' kU' kl1 kl2 kl3 kl4
              have h2' : floatOfInt .f64 21 = k := h2
              clear h1 h2 h7 h9
              go_wp2
              go_roundw
              case rel => exact ⟨_, _, (by first | rfl | simp only [World.drewN_drewN]), rfl, (.inr (.inr (.inr (.inl ⟨rfl, H6.out⟩))))⟩
              case measure => simp [intOf]
            · obtain ⟨r, m', p', k, k', h1, h2, h3, h4, h5, h6, h7, h8, h9⟩ := q_round IU.out 3 (by omega)
              rw [← hp] at h4
              have H6 := Lib.hid h6; have H8 := Lib.hid h8; clear h6 h8 hp kA' kB' kC' kU' kl1 kl2 kl3 kl4
              have h2' : floatOfInt .f64 19 = k := h2
              clear h1 h2 h7 h9
              go_wp2
              go_roundw
              case rel => exact ⟨_, _, (by first | rfl | simp only [World.drewN_drewN]), rfl, (.inr (.inr (.inr (.inr (.inl ⟨rfl, H6.out⟩)))))⟩
              case measure => simp [intOf]
            · obtain ⟨r, m', p', k, k', h1, h2, h3, h4, h5, h6, h7, h8, h9⟩ := q_round IU.out 4 (by omega)
              rw [← hp] at h4
              have H6 := Lib.hid h6; have H8 := Lib.hid h8; clear h6 h8 hp kA' kB' kC' kU' kl1 kl2 kl3 kl4
              have h2' : floatOfInt .f64 17 = k := h2
              clear h1 h2 h7 h9
              go_wp2
              go_roundw
              case rel => exact ⟨_, _, (by first | rfl | simp only [World.drewN_drewN]), rfl, (.inr (.inr (.inr (.inr (.inr (.inl ⟨rfl, H6.out⟩))))))⟩
              case measure => simp [intOf]
            · obtain ⟨r, m', p', k, k', h1, h2, h3, h4, h5, h6, h7, h8, h9⟩ := q_round IU.out 5 (by omega)
              rw [← hp] at h4
              have H6 := Lib.hid h6; have H8 := Lib.hid h8; clear h6 h8 hp kA' kB' kC' kU' kl1 kl2 kl3 kl4
              have h2' : floatOfInt .f64 15 = k := h2
              clear h1 h2 h7 h9
              go_wp2
              go_roundw
              case rel => exact ⟨_, _, (by first | rfl | simp only [World.drewN_drewN]), rfl, (.inr (.inr (.inr (.inr (.inr (.inr (.inl ⟨rfl, H6.out⟩)))))))⟩
              case measure => simp [intOf]
            · obtain ⟨r, m', p', k, k', h1, h2, h3, h4, h5, h6, h7, h8, h9⟩ := q_round IU.out 6 (by omega)
              rw [← hp] at h4
              have H6 := Lib.hid h6; have H8 := Lib.hid h8; clear h6 h8 hp kA' kB' kC' kU' kl1 kl2 kl3 kl4
              have h2' : floatOfInt .f64 13 = k := h2
              clear h1 h2 h7 h9
              go_wp2
              go_roundw
              case rel => exact ⟨_, _, (by first | rfl | simp only [World.drewN_drewN]), rfl, (.inr (.inr (.inr (.inr (.inr (.inr (.inr (.inl ⟨rfl, H6.out⟩))))))))⟩
              case measure => simp [intOf]
            · obtain ⟨r, m', p', k, k', h1, h2, h3, h4, h5, h6, h7, h8, h9⟩ := q_round IU.out 7 (by omega)
              rw [← hp] at h4
              have H6 := Lib.hid h6; have H8 := Lib.hid h8; clear h6 h8 hp kA' kB' kC' kU' kl1 kl2 kl3 kl4
              have h2' : floatOfInt .f64 11 = k := h2
              clear h1 h2 h7 h9
              go_wp2
              go_roundw
              case rel => exact ⟨_, _, (by first | rfl | simp only [World.drewN_drewN]), rfl, (.inr (.inr (.inr (.inr (.inr (.inr (.inr (.inr (.inl ⟨rfl, H6.out⟩)))))))))⟩
              case measure => simp [intOf]
            · obtain ⟨r, m', p', k, k', h1, h2, h3, h4, h5, h6, h7, h8, h9⟩ := q_round IU.out 8 (by omega)
              rw [← hp] at h4
              have H6 := Lib.hid h6; have H8 := Lib.hid h8; clear h6 h8 hp kA' kB' kC' kU' kl1 kl2 kl3 kl4
              have h2' : floatOfInt .f64 9 = k := h2
              clear h1 h2 h7 h9
              go_wp2
              go_roundw
              case rel => exact ⟨_, _, (by first | rfl | simp only [World.drewN_drewN]), rfl, (.inr (.inr (.inr (.inr (.inr (.inr (.inr (.inr (.inr (.inl ⟨rfl, H6.out⟩))))))))))⟩
              case measure => simp [intOf]
            · obtain ⟨r, m', p', k, k', h1, h2, h3, h4, h5, h6, h7, h8, h9⟩ := q_round IU.out 9 (by omega)
              rw [← hp] at h4
              have H6 := Lib.hid h6; have H8 := Lib.hid h8; clear h6 h8 hp kA' kB' kC' kU' kl1 kl2 kl3 kl4
              have h2' : floatOfInt .f64 7 = k := h2
              clear h1 h2 h7 h9
              go_wp2
              go_roundw
              case rel => exact ⟨_, _, (by first | rfl | simp only [World.drewN_drewN]), rfl, (.inr (.inr (.inr (.inr (.inr (.inr (.inr (.inr (.inr (.inr (.inl ⟨rfl, H6.out⟩)))))))))))⟩
              case measure => simp [intOf]
            · obtain ⟨r, m', p', k, k', h1, h2, h3, h4, h5, h6, h7, h8, h9⟩ := q_round IU.out 10 (by omega)
              rw [← hp] at h4
              have H6 := Lib.hid h6; have H8 := Lib.hid h8; clear h6 h8 hp kA' kB' kC' kU' kl1 kl2 kl3 kl4
              have h2' : floatOfInt .f64 5 = k := h2
              clear h1 h2 h7 h9
              go_wp2
              go_roundw
              case rel => exact ⟨_, _, (by first | rfl | simp only [World.drewN_drewN]), rfl, (.inr (.inr (.inr (.inr (.inr (.inr (.inr (.inr (.inr (.inr (.inr (.inl ⟨rfl, H6.out⟩))))))))))))⟩
              case measure => simp [intOf]
            · obtain ⟨r, m', p', k, k', h1, h2, h3, h4, h5, h6, h7, h8, h9⟩ := q_round IU.out 11 (by omega)
              rw [← hp] at h4
              have H6 := Lib.hid h6; have H8 := Lib.hid h8; clear h6 h8 hp kA' kB' kC' kU' kl1 kl2 kl3 kl4
              have h2' : floatOfInt .f64 3 = k := h2
              clear h1 h2 h7 h9
              go_wp2
              go_roundw
              case rel => exact ⟨_, _, (by first | rfl | simp only [World.drewN_drewN]), rfl, (.inr (.inr (.inr (.inr (.inr (.inr (.inr (.inr (.inr (.inr (.inr (.inr (.inl ⟨rfl, H6.out⟩)))))))))))))⟩
              case measure => simp [intOf]
            · obtain ⟨r, m', p', k, k', h1, h2, h3, h4, h5, h6, h7, h8, h9⟩ := q_round IU.out 12 (by omega)
              rw [← hp] at h4
              have H6 := Lib.hid h6; have H8 := Lib.hid h8; clear h6 h8 hp kA' kB' kC' kU' kl1 kl2 kl3 kl4
              have h2' : floatOfInt .f64 1 = k := h2
              clear h1 h2 h7 h9
              go_wp2
              go_roundw
              case rel => exact ⟨_, _, (by first | rfl | simp only [World.drewN_drewN]), rfl, (.inr (.inr (.inr (.inr (.inr (.inr (.inr (.inr (.inr (.inr (.inr (.inr (.inr (⟨rfl, H6.out⟩))))))))))))))⟩
              case measure => simp [intOf]
            · rw [← hp] at kl1
              clear hp
              go_wp2
              go_ret
              exact .mk' _ rfl rfl

end Go.Proofs.Ytjpbimfnppmbcaa
