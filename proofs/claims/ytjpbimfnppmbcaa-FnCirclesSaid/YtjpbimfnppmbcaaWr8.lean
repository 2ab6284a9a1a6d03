/- Phasors: the walks of the reference and of the program. -/
import Derived.Test.YtjpbimfnppmbcaaWr3
import Derived.Laws.Cover3
namespace Go.Proofs.Ytjpbimfnppmbcaa
open Fl Go.RowKit

theorem run_conv_complex {P : Program} (src dst : TypeId) (a b : Nat) (w : World) (hs : (P.underlying src).isSome = true) (hd : P.underlying dst = some (.complex .f64)) :
    (convert src dst (.complex .f32 a b)).run P w = .ok (.complex .f64 (cv .f32 a .f64 w) (cv .f32 b .f64 (w.drewN (cd .f32 a .f64)))) (w.drewN (cd .f32 a .f64 + cd .f32 b .f64)) := by
  obtain ⟨u, hs'⟩ := Option.isSome_iff_exists.1 hs
  have h1 := run_f2f (P := P) (w := w) .f32 a .f64
  have h2 := run_f2f (P := P) (w := w.drewN (cd .f32 a .f64)) .f32 b .f64
  cases u <;> simp [convert, run_underlying hs', run_underlying hd, Conv.complexToComplex, h1, h2, World.drewN_drewN]

/-- The call returns a complex number of these classes; the memory is as it was. -/
def RetX (c : Option Nat × Option Nat) (w : World) (e : Ending) (w' : World) : Prop := ∃ r i, e = .returned (.complex .f32 r i) ∧ cls .f32 r = c.1 ∧ cls .f32 i = c.2 ∧ ∃ n, w' = w.drewN n
theorem RetX.mk' {r i : Nat} {c : Option Nat × Option Nat} {w w' : World} (n : Nat) (h1 : cls .f32 r = c.1) (h2 : cls .f32 i = c.2) (hw : w' = w.drewN n) : RetX c w (.returned (.complex .f32 r i)) w' := ⟨r, i, rfl, h1, h2, n, hw⟩

/-- The part of a turn, less some quarters. -/
def fq (y : Nat) : Nat → Nat
  | 0 => pt y
  | j + 1 => opw .sub (fq y j) 0x3FD0000000000000
def geq (f : Nat) : Bool := FloatKind.f64.format.order f 0x3FD0000000000000 == some .gt || FloatKind.f64.format.order f 0x3FD0000000000000 == some .eq
theorem geq_N {f : Nat} {l h : Int} (hf : In (some f) l h) : geq f = decide (V ≤ N Ieee.double f) := by
  unfold geq
  rw [ge_N hf.fin quarter_in.fin]
  have a := quarter_in.lo; have b := quarter_in.hi
  have e : N Ieee.double 0x3FD0000000000000 = V := by omega
  rw [e]
theorem fq_in {y : Nat} (hy : y < 2 ^ 64) (h : small y) : ∀ j : Nat, (∀ i, i < j → geq (fq y i) = true) → j ≤ 4 ∧ In (some (fq y j)) 0 (4 - j)
  | 0, _ => ⟨by omega, (pt_in hy h).2⟩
  | j + 1, hg => by
    obtain ⟨hj, hi⟩ := fq_in hy h j (fun i hi => hg i (by omega))
    have hgj := hg j (by omega)
    rw [geq_N hi] at hgj
    have hV := of_decide_eq_true hgj
    have v := V_pos
    have hh := hi.hi
    have hj3 : j ≤ 3 := by
      rcases Nat.lt_or_ge 3 j with q | q
      · exfalso
        have e : ((4 : Int) - j) * V = 0 := by rw [show (4 : Int) - j = 0 by omega, Int.zero_mul]
        omega
      · exact q
    have hi1 : In (some (fq y j)) 1 (4 - j) := .of hi.lt hi.fin (by omega) hi.hi
    have hs := opw_in (in_sub hi1 quarter_in (by unfold ok; omega) (by unfold ok; omega))
    exact ⟨by omega, in_mono hs.2 (by omega) (by omega)⟩
theorem fq_step {y j : Nat} (hy : y < 2 ^ 64) (h : small y) (hg : ∀ i, i < j → geq (fq y i) = true) : ∀ w, fa .sub .f64 (fq y j) 0x3FD0000000000000 w = fq y (j + 1) := by
  obtain ⟨hj, hi⟩ := fq_in hy h j hg
  exact (opw_in (in_sub hi quarter_in (by unfold ok; omega) (by unfold ok; omega))).1
theorem fq_end {y j : Nat} (hy : y < 2 ^ 64) (h : small y) (hg : ∀ i, i < j → geq (fq y i) = true) (he : geq (fq y j) = false) : In (some (fq y j)) 0 1 := by
  obtain ⟨hj, hi⟩ := fq_in hy h j hg
  rw [geq_N hi] at he
  have := of_decide_eq_false he
  exact .of hi.lt hi.fin hi.lo (by omega)
theorem fq_le {y j : Nat} (hy : y < 2 ^ 64) (h : small y) (hg : ∀ i, i < j → geq (fq y i) = true) : j ≤ 4 := (fq_in hy h j hg).1

/-- The quarter. -/
def fQ (y : Nat) : Nat := if !geq (fq y 0) then 0 else if !geq (fq y 1) then 1 else if !geq (fq y 2) then 2 else if !geq (fq y 3) then 3 else 4
theorem fQ_eq {y j : Nat} (hj : j ≤ 4) (hg : ∀ i, i < j → geq (fq y i) = true) (he : j < 4 → geq (fq y j) = false) : fQ y = j := by
  unfold fQ
  have g := fun i hi => hg i hi
  rcases (show j = 0 ∨ j = 1 ∨ j = 2 ∨ j = 3 ∨ j = 4 by omega) with rfl | rfl | rfl | rfl | rfl
  · rw [he (by omega)]; rfl
  · rw [g 0 (by omega), he (by omega)]; rfl
  · rw [g 0 (by omega), g 1 (by omega), he (by omega)]; rfl
  · rw [g 0 (by omega), g 1 (by omega), g 2 (by omega), he (by omega)]; rfl
  · rw [g 0 (by omega), g 1 (by omega), g 2 (by omega), g 3 (by omega)]; rfl

theorem in_small {f : Nat} {l h : Int} (hi : In (some f) l h) (hl : -16 ≤ l) (hh : h ≤ 16) : small f := by
  refine ⟨hi.fin, ?_⟩
  have a := hi.lo; have b := hi.hi; have v := V_pos; have uv := U_V; have un := U_nat Ieee.double
  have k1 : h * V ≤ 16 * V := Int.mul_le_mul_of_nonneg_right hh (by omega)
  have k2 : -16 * V ≤ l * V := Int.mul_le_mul_of_nonneg_right hl (by omega)
  generalize 2 ^ (-Ieee.double.leastPlace).toNat = u at *
  omega

/-- The two sines, and the parts of the phasor. -/
def phG (f : Nat) : Nat := opw .sub 0x3FD0000000000000 f
def phC (f : Nat) : Nat := sineW (phG f)
def phS (f : Nat) : Nat := sineW f
theorem phG_in {f : Nat} (h : In (some f) 0 1) : (∀ w, fa .sub .f64 0x3FD0000000000000 f w = phG f) ∧ In (some (phG f)) 0 1 :=
  have hs := opw_in (in_sub quarter_in h (by unfold ok; omega) (by unfold ok; omega))
  ⟨hs.1, in_mono hs.2 (by omega) (by omega)⟩
theorem phC_in {f : Nat} (h : In (some f) 0 1) : In (some (phC f)) (-21) 21 := sine_in (phG_in h).2.lt (in_small (phG_in h).2 (by omega) (by omega))
theorem phS_in {f : Nat} (h : In (some f) 0 1) : In (some (phS f)) (-21) 21 := sine_in h.lt (in_small h (by omega) (by omega))
theorem no_in {c : Nat} (h : In (some c) (-21) 21) : (∀ w, fa .sub .f64 0 c w = opw .sub 0 c) ∧ In (some (opw .sub 0 c)) (-21) 21 :=
  have hs := opw_in (in_sub zero_in h (by unfold ok; omega) (by unfold ok; omega))
  ⟨hs.1, in_mono hs.2 (by omega) (by omega)⟩
def phRe (j f : Nat) : Nat := if j = 1 then opw .sub 0 (phS f) else if j = 2 then opw .sub 0 (phC f) else if j = 3 then phS f else phC f
def phIm (j f : Nat) : Nat := if j = 1 then phC f else if j = 2 then opw .sub 0 (phS f) else if j = 3 then opw .sub 0 (phC f) else phS f

noncomputable def phR (y : Nat) : Option Nat × Option Nat := if finb FloatKind.f64.format y then
  (open Classical in if small y then (some (tr .f64 .f32 (phRe (fQ y) (fq y (fQ y)))), some (tr .f64 .f32 (phIm (fQ y) (fq y (fQ y))))) else (some 0x3F800000, some 0)) else (none, none)
theorem phR_nan {y : Nat} (h : finb FloatKind.f64.format y = false) : phR y = (none, none) := by unfold phR; rw [h]; rfl
theorem phR_big {y : Nat} (h : finb FloatKind.f64.format y = true) (hs : ¬ small y) : phR y = (some 0x3F800000, some 0) := by unfold phR; rw [h, if_pos rfl, if_neg hs]
theorem phR_small {y j : Nat} (h : finb FloatKind.f64.format y = true) (hs : small y) (hq : fQ y = j) : phR y = (some (tr .f64 .f32 (phRe j (fq y j))), some (tr .f64 .f32 (phIm j (fq y j)))) := by unfold phR; rw [h, if_pos rfl, if_pos hs, hq]

set_option maxHeartbeats 1600000 in
theorem spec_l01Phasor_small (y : Nat) (hy : y < 2 ^ 64) (h : small y) (w : World) : Calls Try.prog 61 #[.float .f64 y] w (RetX (phR y) w) := by
  obtain ⟨q1, q2, q3, q4⟩ := small_tests hy h
  obtain ⟨k1, _⟩ := ptA_in hy h
  have ho := pt_or hy h
  have HI := Lib.hid (whI_val h)
  have kc : ∀ w, (convert 26 2 (.float .f64 y)).run Try.prog w = .ok (.int .i64 (whI y)) w := fun w => run_convert_float_int w _ _ _ _ _ _ (by kernel_rfl) (by kernel_rfl) HI.out
  have kn : floatOfInt .f64 (whI y) = wh y := wh_int (y := y)
  clear q4 HI
  have HS := Lib.hid h; have HY := Lib.hid hy; clear h hy
  have H0 : Hid (pt y = fq y 0) := Lib.hid rfl
  generalize whI y = wi at *
  generalize wh y = wy at *
  generalize pt y = p at *
  generalize ptA y = a at *
  rcases ho with ⟨c1, k2⟩ | ⟨c1, rfl⟩
  · go_enter Try.func61, Try.ntmps61
    go_wp2_with fail
    go_loopw [3, 4] (fun f q wr => ∃ j n f', wr = w.drewN n ∧ f = .float .f64 f' ∧ f' = fq y j ∧ q = .int .i64 ((j : Nat) : Int) ∧ Hid (∀ i, i < j → geq (fq y i) = true)) (fun _ q _ => 5 - (intOf q).toNat)
    case atStart => exact ⟨0, _, _, (by first | rfl | simp only [World.drewN_drewN]), rfl, H0.out, rfl, Lib.hid fun i hi => absurd hi (Nat.not_lt_zero _)⟩
    case round =>
      obtain ⟨j, n, f, rfl, rfl, hf, rfl, HGE⟩ := hrel
      have HF := Lib.hid hf; clear hf
      have hj4 : (j : Int) ≤ 4 := by have := fq_le HY.out HS.out HGE.out; omega
      cases hc : geq f
      · have HQ0 := Lib.hid (fQ_eq (y := y) (j := j) (by omega) HGE.out (fun _ => by rw [← HF.out]; exact hc))
        have IF : Hid (In (some f) 0 1) := Lib.hid (by rw [HF.out]; exact fq_end HY.out HS.out HGE.out (by rw [← HF.out]; exact hc))
        unfold geq at hc
        obtain ⟨kg, ig⟩ := phG_in IF.out
        have IG0 := Lib.hid ig; clear ig
        have IC := Lib.hid (phC_in IF.out); have IS := Lib.hid (phS_in IF.out)
        obtain ⟨kc0, ic0⟩ := no_in IC.out
        obtain ⟨ks0, is0⟩ := no_in IS.out
        have IC0 := Lib.hid ic0; have IS0 := Lib.hid is0; clear ic0 is0 HGE
        obtain ⟨g, hg⟩ : ∃ g, g = phG f := ⟨_, rfl⟩
        rw [← hg] at kg
        have IG : Hid (In (some g) 0 1) := Lib.hid (by rw [hg]; exact IG0.out)
        have HG := Lib.hid hg; clear hg IG0
        rcases (show j = 0 ∨ j = 1 ∨ j = 2 ∨ j = 3 ∨ j = 4 by omega) with rfl | rfl | rfl | rfl | rfl
        · have HQ : Hid (fQ y = 0) := HQ0
          clear hj4 HQ0
          have HR : Hid (phR y = (some (tr .f64 .f32 (phC f)), some (tr .f64 .f32 (phS f)))) := Lib.hid (by rw [phR_small (finb_iff.2 HS.out.1) HS.out HQ.out, ← HF.out]; rfl)
          have HPC : Hid (sineW g = phC f) := Lib.hid (by unfold phC; rw [HG.out])
          have HPS : Hid (sineW f = phS f) := Lib.hid rfl
          clear HQ HF HG
          generalize opw .sub 0 (phC f) = c0 at *
          generalize opw .sub 0 (phS f) = s0 at *
          generalize phC f = c at *
          generalize phS f = s at *
          go_wp2_with fail
          refine (spec_l01SineWide _ IG.out.lt (in_small IG.out (by omega) (by omega)) _).mono ?_
          rintro e w' ⟨rfl, m1, rfl⟩
          rw [HPC.out]
          go_wp2_with fail
          refine (spec_l01SineWide _ IF.out.lt (in_small IF.out (by omega) (by omega)) _).mono ?_
          rintro e w' ⟨rfl, m2, rfl⟩
          rw [HPS.out]
          go_wp2_with fail
          refine (spec_l01Narrow _ _).mono ?_
          rintro e w' ⟨w3, rfl, m3, rfl⟩
          go_wp2_with fail
          refine (spec_l01Narrow _ _).mono ?_
          rintro e w' ⟨w4, rfl, m4, rfl⟩
          go_wp2
          go_ret
          exact .mk' _ (by rw [HR.out]; exact narrow_in IC.out (by omega) (by omega) _) (by rw [HR.out]; exact narrow_in IS.out (by omega) (by omega) _) rfl
        · have HQ : Hid (fQ y = 1) := HQ0
          clear hj4 HQ0
          have HR : Hid (phR y = (some (tr .f64 .f32 (opw .sub 0 (phS f))), some (tr .f64 .f32 (phC f)))) := Lib.hid (by rw [phR_small (finb_iff.2 HS.out.1) HS.out HQ.out, ← HF.out]; rfl)
          have HPC : Hid (sineW g = phC f) := Lib.hid (by unfold phC; rw [HG.out])
          have HPS : Hid (sineW f = phS f) := Lib.hid rfl
          clear HQ HF HG
          generalize opw .sub 0 (phC f) = c0 at *
          generalize opw .sub 0 (phS f) = s0 at *
          generalize phC f = c at *
          generalize phS f = s at *
          go_wp2_with fail
          refine (spec_l01SineWide _ IG.out.lt (in_small IG.out (by omega) (by omega)) _).mono ?_
          rintro e w' ⟨rfl, m1, rfl⟩
          rw [HPC.out]
          go_wp2_with fail
          refine (spec_l01SineWide _ IF.out.lt (in_small IF.out (by omega) (by omega)) _).mono ?_
          rintro e w' ⟨rfl, m2, rfl⟩
          rw [HPS.out]
          go_wp2_with fail
          refine (spec_l01Narrow _ _).mono ?_
          rintro e w' ⟨w3, rfl, m3, rfl⟩
          go_wp2_with fail
          refine (spec_l01Narrow _ _).mono ?_
          rintro e w' ⟨w4, rfl, m4, rfl⟩
          go_wp2
          go_ret
          exact .mk' _ (by rw [HR.out]; exact narrow_in IS0.out (by omega) (by omega) _) (by rw [HR.out]; exact narrow_in IC.out (by omega) (by omega) _) rfl
        · have HQ : Hid (fQ y = 2) := HQ0
          clear hj4 HQ0
          have HR : Hid (phR y = (some (tr .f64 .f32 (opw .sub 0 (phC f))), some (tr .f64 .f32 (opw .sub 0 (phS f))))) := Lib.hid (by rw [phR_small (finb_iff.2 HS.out.1) HS.out HQ.out, ← HF.out]; rfl)
          have HPC : Hid (sineW g = phC f) := Lib.hid (by unfold phC; rw [HG.out])
          have HPS : Hid (sineW f = phS f) := Lib.hid rfl
          clear HQ HF HG
          generalize opw .sub 0 (phC f) = c0 at *
          generalize opw .sub 0 (phS f) = s0 at *
          generalize phC f = c at *
          generalize phS f = s at *
          go_wp2_with fail
          refine (spec_l01SineWide _ IG.out.lt (in_small IG.out (by omega) (by omega)) _).mono ?_
          rintro e w' ⟨rfl, m1, rfl⟩
          rw [HPC.out]
          go_wp2_with fail
          refine (spec_l01SineWide _ IF.out.lt (in_small IF.out (by omega) (by omega)) _).mono ?_
          rintro e w' ⟨rfl, m2, rfl⟩
          rw [HPS.out]
          go_wp2_with fail
          refine (spec_l01Narrow _ _).mono ?_
          rintro e w' ⟨w3, rfl, m3, rfl⟩
          go_wp2_with fail
          refine (spec_l01Narrow _ _).mono ?_
          rintro e w' ⟨w4, rfl, m4, rfl⟩
          go_wp2
          go_ret
          exact .mk' _ (by rw [HR.out]; exact narrow_in IC0.out (by omega) (by omega) _) (by rw [HR.out]; exact narrow_in IS0.out (by omega) (by omega) _) rfl
        · have HQ : Hid (fQ y = 3) := HQ0
          clear hj4 HQ0
          have HR : Hid (phR y = (some (tr .f64 .f32 (phS f)), some (tr .f64 .f32 (opw .sub 0 (phC f))))) := Lib.hid (by rw [phR_small (finb_iff.2 HS.out.1) HS.out HQ.out, ← HF.out]; rfl)
          have HPC : Hid (sineW g = phC f) := Lib.hid (by unfold phC; rw [HG.out])
          have HPS : Hid (sineW f = phS f) := Lib.hid rfl
          clear HQ HF HG
          generalize opw .sub 0 (phC f) = c0 at *
          generalize opw .sub 0 (phS f) = s0 at *
          generalize phC f = c at *
          generalize phS f = s at *
          go_wp2_with fail
          refine (spec_l01SineWide _ IG.out.lt (in_small IG.out (by omega) (by omega)) _).mono ?_
          rintro e w' ⟨rfl, m1, rfl⟩
          rw [HPC.out]
          go_wp2_with fail
          refine (spec_l01SineWide _ IF.out.lt (in_small IF.out (by omega) (by omega)) _).mono ?_
          rintro e w' ⟨rfl, m2, rfl⟩
          rw [HPS.out]
          go_wp2_with fail
          refine (spec_l01Narrow _ _).mono ?_
          rintro e w' ⟨w3, rfl, m3, rfl⟩
          go_wp2_with fail
          refine (spec_l01Narrow _ _).mono ?_
          rintro e w' ⟨w4, rfl, m4, rfl⟩
          go_wp2
          go_ret
          exact .mk' _ (by rw [HR.out]; exact narrow_in IS.out (by omega) (by omega) _) (by rw [HR.out]; exact narrow_in IC0.out (by omega) (by omega) _) rfl
        · have HQ : Hid (fQ y = 4) := HQ0
          clear hj4 HQ0
          have HR : Hid (phR y = (some (tr .f64 .f32 (phC f)), some (tr .f64 .f32 (phS f)))) := Lib.hid (by rw [phR_small (finb_iff.2 HS.out.1) HS.out HQ.out, ← HF.out]; rfl)
          have HPC : Hid (sineW g = phC f) := Lib.hid (by unfold phC; rw [HG.out])
          have HPS : Hid (sineW f = phS f) := Lib.hid rfl
          clear HQ HF HG
          generalize opw .sub 0 (phC f) = c0 at *
          generalize opw .sub 0 (phS f) = s0 at *
          generalize phC f = c at *
          generalize phS f = s at *
          go_wp2_with fail
          refine (spec_l01SineWide _ IG.out.lt (in_small IG.out (by omega) (by omega)) _).mono ?_
          rintro e w' ⟨rfl, m1, rfl⟩
          rw [HPC.out]
          go_wp2_with fail
          refine (spec_l01SineWide _ IF.out.lt (in_small IF.out (by omega) (by omega)) _).mono ?_
          rintro e w' ⟨rfl, m2, rfl⟩
          rw [HPS.out]
          go_wp2_with fail
          refine (spec_l01Narrow _ _).mono ?_
          rintro e w' ⟨w3, rfl, m3, rfl⟩
          go_wp2_with fail
          refine (spec_l01Narrow _ _).mono ?_
          rintro e w' ⟨w4, rfl, m4, rfl⟩
          go_wp2
          go_ret
          exact .mk' _ (by rw [HR.out]; exact narrow_in IC.out (by omega) (by omega) _) (by rw [HR.out]; exact narrow_in IS.out (by omega) (by omega) _) rfl
      · have hst := fq_step HY.out HS.out HGE.out
        have HG1 : Hid (∀ i, i < j + 1 → geq (fq y i) = true) := Lib.hid fun i hi => by
          rcases Nat.lt_or_ge i j with q | q
          · exact HGE.out i q
          · obtain rfl : i = j := by omega
            rw [← HF.out]; exact hc
        unfold geq at hc
        rw [← HF.out] at hst
        obtain ⟨f', hf'⟩ : ∃ f', f' = fq y (j + 1) := ⟨_, rfl⟩
        rw [← hf'] at hst
        have HF' := Lib.hid hf'; clear hf'
        have HJ : Hid (j + 1 ≤ 4) := Lib.hid (fq_le HY.out HS.out HG1.out)
        go_wp2
        go_roundw
        case rel => exact ⟨j + 1, _, _, (by first | rfl | simp only [World.drewN_drewN]), rfl, HF'.out, by go_num, HG1⟩
        case measure => have := HJ.out; simp [intOf]; omega
  · go_enter Try.func61, Try.ntmps61
    go_wp2_with fail
    go_loopw [3, 4] (fun f q wr => ∃ j n f', wr = w.drewN n ∧ f = .float .f64 f' ∧ f' = fq y j ∧ q = .int .i64 ((j : Nat) : Int) ∧ Hid (∀ i, i < j → geq (fq y i) = true)) (fun _ q _ => 5 - (intOf q).toNat)
    case atStart => exact ⟨0, _, _, (by first | rfl | simp only [World.drewN_drewN]), rfl, H0.out, rfl, Lib.hid fun i hi => absurd hi (Nat.not_lt_zero _)⟩
    case round =>
      obtain ⟨j, n, f, rfl, rfl, hf, rfl, HGE⟩ := hrel
      have HF := Lib.hid hf; clear hf
      have hj4 : (j : Int) ≤ 4 := by have := fq_le HY.out HS.out HGE.out; omega
      cases hc : geq f
      · have HQ0 := Lib.hid (fQ_eq (y := y) (j := j) (by omega) HGE.out (fun _ => by rw [← HF.out]; exact hc))
        have IF : Hid (In (some f) 0 1) := Lib.hid (by rw [HF.out]; exact fq_end HY.out HS.out HGE.out (by rw [← HF.out]; exact hc))
        unfold geq at hc
        obtain ⟨kg, ig⟩ := phG_in IF.out
        have IG0 := Lib.hid ig; clear ig
        have IC := Lib.hid (phC_in IF.out); have IS := Lib.hid (phS_in IF.out)
        obtain ⟨kc0, ic0⟩ := no_in IC.out
        obtain ⟨ks0, is0⟩ := no_in IS.out
        have IC0 := Lib.hid ic0; have IS0 := Lib.hid is0; clear ic0 is0 HGE
        obtain ⟨g, hg⟩ : ∃ g, g = phG f := ⟨_, rfl⟩
        rw [← hg] at kg
        have IG : Hid (In (some g) 0 1) := Lib.hid (by rw [hg]; exact IG0.out)
        have HG := Lib.hid hg; clear hg IG0
        rcases (show j = 0 ∨ j = 1 ∨ j = 2 ∨ j = 3 ∨ j = 4 by omega) with rfl | rfl | rfl | rfl | rfl
        · have HQ : Hid (fQ y = 0) := HQ0
          clear hj4 HQ0
          have HR : Hid (phR y = (some (tr .f64 .f32 (phC f)), some (tr .f64 .f32 (phS f)))) := Lib.hid (by rw [phR_small (finb_iff.2 HS.out.1) HS.out HQ.out, ← HF.out]; rfl)
          have HPC : Hid (sineW g = phC f) := Lib.hid (by unfold phC; rw [HG.out])
          have HPS : Hid (sineW f = phS f) := Lib.hid rfl
          clear HQ HF HG
          generalize opw .sub 0 (phC f) = c0 at *
          generalize opw .sub 0 (phS f) = s0 at *
          generalize phC f = c at *
          generalize phS f = s at *
          go_wp2_with fail
          refine (spec_l01SineWide _ IG.out.lt (in_small IG.out (by omega) (by omega)) _).mono ?_
          rintro e w' ⟨rfl, m1, rfl⟩
          rw [HPC.out]
          go_wp2_with fail
          refine (spec_l01SineWide _ IF.out.lt (in_small IF.out (by omega) (by omega)) _).mono ?_
          rintro e w' ⟨rfl, m2, rfl⟩
          rw [HPS.out]
          go_wp2_with fail
          refine (spec_l01Narrow _ _).mono ?_
          rintro e w' ⟨w3, rfl, m3, rfl⟩
          go_wp2_with fail
          refine (spec_l01Narrow _ _).mono ?_
          rintro e w' ⟨w4, rfl, m4, rfl⟩
          go_wp2
          go_ret
          exact .mk' _ (by rw [HR.out]; exact narrow_in IC.out (by omega) (by omega) _) (by rw [HR.out]; exact narrow_in IS.out (by omega) (by omega) _) rfl
        · have HQ : Hid (fQ y = 1) := HQ0
          clear hj4 HQ0
          have HR : Hid (phR y = (some (tr .f64 .f32 (opw .sub 0 (phS f))), some (tr .f64 .f32 (phC f)))) := Lib.hid (by rw [phR_small (finb_iff.2 HS.out.1) HS.out HQ.out, ← HF.out]; rfl)
          have HPC : Hid (sineW g = phC f) := Lib.hid (by unfold phC; rw [HG.out])
          have HPS : Hid (sineW f = phS f) := Lib.hid rfl
          clear HQ HF HG
          generalize opw .sub 0 (phC f) = c0 at *
          generalize opw .sub 0 (phS f) = s0 at *
          generalize phC f = c at *
          generalize phS f = s at *
          go_wp2_with fail
          refine (spec_l01SineWide _ IG.out.lt (in_small IG.out (by omega) (by omega)) _).mono ?_
          rintro e w' ⟨rfl, m1, rfl⟩
          rw [HPC.out]
          go_wp2_with fail
          refine (spec_l01SineWide _ IF.out.lt (in_small IF.out (by omega) (by omega)) _).mono ?_
          rintro e w' ⟨rfl, m2, rfl⟩
          rw [HPS.out]
          go_wp2_with fail
          refine (spec_l01Narrow _ _).mono ?_
          rintro e w' ⟨w3, rfl, m3, rfl⟩
          go_wp2_with fail
          refine (spec_l01Narrow _ _).mono ?_
          rintro e w' ⟨w4, rfl, m4, rfl⟩
          go_wp2
          go_ret
          exact .mk' _ (by rw [HR.out]; exact narrow_in IS0.out (by omega) (by omega) _) (by rw [HR.out]; exact narrow_in IC.out (by omega) (by omega) _) rfl
        · have HQ : Hid (fQ y = 2) := HQ0
          clear hj4 HQ0
          have HR : Hid (phR y = (some (tr .f64 .f32 (opw .sub 0 (phC f))), some (tr .f64 .f32 (opw .sub 0 (phS f))))) := Lib.hid (by rw [phR_small (finb_iff.2 HS.out.1) HS.out HQ.out, ← HF.out]; rfl)
          have HPC : Hid (sineW g = phC f) := Lib.hid (by unfold phC; rw [HG.out])
          have HPS : Hid (sineW f = phS f) := Lib.hid rfl
          clear HQ HF HG
          generalize opw .sub 0 (phC f) = c0 at *
          generalize opw .sub 0 (phS f) = s0 at *
          generalize phC f = c at *
          generalize phS f = s at *
          go_wp2_with fail
          refine (spec_l01SineWide _ IG.out.lt (in_small IG.out (by omega) (by omega)) _).mono ?_
          rintro e w' ⟨rfl, m1, rfl⟩
          rw [HPC.out]
          go_wp2_with fail
          refine (spec_l01SineWide _ IF.out.lt (in_small IF.out (by omega) (by omega)) _).mono ?_
          rintro e w' ⟨rfl, m2, rfl⟩
          rw [HPS.out]
          go_wp2_with fail
          refine (spec_l01Narrow _ _).mono ?_
          rintro e w' ⟨w3, rfl, m3, rfl⟩
          go_wp2_with fail
          refine (spec_l01Narrow _ _).mono ?_
          rintro e w' ⟨w4, rfl, m4, rfl⟩
          go_wp2
          go_ret
          exact .mk' _ (by rw [HR.out]; exact narrow_in IC0.out (by omega) (by omega) _) (by rw [HR.out]; exact narrow_in IS0.out (by omega) (by omega) _) rfl
        · have HQ : Hid (fQ y = 3) := HQ0
          clear hj4 HQ0
          have HR : Hid (phR y = (some (tr .f64 .f32 (phS f)), some (tr .f64 .f32 (opw .sub 0 (phC f))))) := Lib.hid (by rw [phR_small (finb_iff.2 HS.out.1) HS.out HQ.out, ← HF.out]; rfl)
          have HPC : Hid (sineW g = phC f) := Lib.hid (by unfold phC; rw [HG.out])
          have HPS : Hid (sineW f = phS f) := Lib.hid rfl
          clear HQ HF HG
          generalize opw .sub 0 (phC f) = c0 at *
          generalize opw .sub 0 (phS f) = s0 at *
          generalize phC f = c at *
          generalize phS f = s at *
          go_wp2_with fail
          refine (spec_l01SineWide _ IG.out.lt (in_small IG.out (by omega) (by omega)) _).mono ?_
          rintro e w' ⟨rfl, m1, rfl⟩
          rw [HPC.out]
          go_wp2_with fail
          refine (spec_l01SineWide _ IF.out.lt (in_small IF.out (by omega) (by omega)) _).mono ?_
          rintro e w' ⟨rfl, m2, rfl⟩
          rw [HPS.out]
          go_wp2_with fail
          refine (spec_l01Narrow _ _).mono ?_
          rintro e w' ⟨w3, rfl, m3, rfl⟩
          go_wp2_with fail
          refine (spec_l01Narrow _ _).mono ?_
          rintro e w' ⟨w4, rfl, m4, rfl⟩
          go_wp2
          go_ret
          exact .mk' _ (by rw [HR.out]; exact narrow_in IS.out (by omega) (by omega) _) (by rw [HR.out]; exact narrow_in IC0.out (by omega) (by omega) _) rfl
        · have HQ : Hid (fQ y = 4) := HQ0
          clear hj4 HQ0
          have HR : Hid (phR y = (some (tr .f64 .f32 (phC f)), some (tr .f64 .f32 (phS f)))) := Lib.hid (by rw [phR_small (finb_iff.2 HS.out.1) HS.out HQ.out, ← HF.out]; rfl)
          have HPC : Hid (sineW g = phC f) := Lib.hid (by unfold phC; rw [HG.out])
          have HPS : Hid (sineW f = phS f) := Lib.hid rfl
          clear HQ HF HG
          generalize opw .sub 0 (phC f) = c0 at *
          generalize opw .sub 0 (phS f) = s0 at *
          generalize phC f = c at *
          generalize phS f = s at *
          go_wp2_with fail
          refine (spec_l01SineWide _ IG.out.lt (in_small IG.out (by omega) (by omega)) _).mono ?_
          rintro e w' ⟨rfl, m1, rfl⟩
          rw [HPC.out]
          go_wp2_with fail
          refine (spec_l01SineWide _ IF.out.lt (in_small IF.out (by omega) (by omega)) _).mono ?_
          rintro e w' ⟨rfl, m2, rfl⟩
          rw [HPS.out]
          go_wp2_with fail
          refine (spec_l01Narrow _ _).mono ?_
          rintro e w' ⟨w3, rfl, m3, rfl⟩
          go_wp2_with fail
          refine (spec_l01Narrow _ _).mono ?_
          rintro e w' ⟨w4, rfl, m4, rfl⟩
          go_wp2
          go_ret
          exact .mk' _ (by rw [HR.out]; exact narrow_in IC.out (by omega) (by omega) _) (by rw [HR.out]; exact narrow_in IS.out (by omega) (by omega) _) rfl
      · have hst := fq_step HY.out HS.out HGE.out
        have HG1 : Hid (∀ i, i < j + 1 → geq (fq y i) = true) := Lib.hid fun i hi => by
          rcases Nat.lt_or_ge i j with q | q
          · exact HGE.out i q
          · obtain rfl : i = j := by omega
            rw [← HF.out]; exact hc
        unfold geq at hc
        rw [← HF.out] at hst
        obtain ⟨f', hf'⟩ : ∃ f', f' = fq y (j + 1) := ⟨_, rfl⟩
        rw [← hf'] at hst
        have HF' := Lib.hid hf'; clear hf'
        have HJ : Hid (j + 1 ≤ 4) := Lib.hid (fq_le HY.out HS.out HG1.out)
        go_wp2
        go_roundw
        case rel => exact ⟨j + 1, _, _, (by first | rfl | simp only [World.drewN_drewN]), rfl, HF'.out, by go_num, HG1⟩
        case measure => have := HJ.out; simp [intOf]; omega

set_option maxHeartbeats 1600000 in
theorem impl_PhasorOf_small (y : Nat) (hy : y < 2 ^ 64) (h : small y) (w : World) : Calls Try.prog 27 #[.float .f64 y] w (RetX (phR y) w) := by
  obtain ⟨q1, q2, q3, q4⟩ := small_tests hy h
  clear q2 q3
  have HS := Lib.hid h; have HY := Lib.hid hy; clear h hy
  go_enter Try.func27, Try.ntmps27
  go_wp2_with fail
  refine (math_NaN _).mono ?_
  rintro e w' ⟨b, rfl, hb, n, rfl⟩
  clear hb
  go_wp2_with fail
  refine (impl_isHuge _ HY.out _).mono ?_
  rintro e w' ⟨rfl, n2, rfl⟩
  go_wp2_with fail
  refine (impl_partOfTurn _ HY.out HS.out _).mono ?_
  rintro e w' ⟨rfl, n3, rfl⟩
  go_wp2_with fail
  go_loopw [4, 5] (fun f q wr => ∃ j n f', wr = w.drewN n ∧ f = .float .f64 f' ∧ f' = fq y j ∧ q = .int .i64 ((j : Nat) : Int) ∧ Hid (∀ i, i < j → geq (fq y i) = true)) (fun _ q _ => 5 - (intOf q).toNat)
  case atStart => exact ⟨0, _, _, (by first | rfl | simp only [World.drewN_drewN]), rfl, rfl, rfl, Lib.hid fun i hi => absurd hi (Nat.not_lt_zero _)⟩
  case round =>
    obtain ⟨j, n, f, rfl, rfl, hf, rfl, HGE⟩ := hrel
    have HF := Lib.hid hf; clear hf
    have hj4 : (j : Int) ≤ 4 := by have := fq_le HY.out HS.out HGE.out; omega
    cases hc : geq f
    · have HQ0 := Lib.hid (fQ_eq (y := y) (j := j) (by omega) HGE.out (fun _ => by rw [← HF.out]; exact hc))
      have IF : Hid (In (some f) 0 1) := Lib.hid (by rw [HF.out]; exact fq_end HY.out HS.out HGE.out (by rw [← HF.out]; exact hc))
      unfold geq at hc
      obtain ⟨kg, ig⟩ := phG_in IF.out
      have IG0 := Lib.hid ig; clear ig
      have IC := Lib.hid (phC_in IF.out); have IS := Lib.hid (phS_in IF.out)
      obtain ⟨kc0, ic0⟩ := no_in IC.out
      obtain ⟨ks0, is0⟩ := no_in IS.out
      have IC0 := Lib.hid ic0; have IS0 := Lib.hid is0; clear ic0 is0 HGE
      obtain ⟨g, hg⟩ : ∃ g, g = phG f := ⟨_, rfl⟩
      rw [← hg] at kg
      have IG : Hid (In (some g) 0 1) := Lib.hid (by rw [hg]; exact IG0.out)
      have HG := Lib.hid hg; clear hg IG0
      rcases (show j = 0 ∨ j = 1 ∨ j = 2 ∨ j = 3 ∨ j = 4 by omega) with rfl | rfl | rfl | rfl | rfl
      · have HQ : Hid (fQ y = 0) := HQ0
        clear hj4 HQ0
        have HR : Hid (phR y = (some (tr .f64 .f32 (phC f)), some (tr .f64 .f32 (phS f)))) := Lib.hid (by rw [phR_small (finb_iff.2 HS.out.1) HS.out HQ.out, ← HF.out]; rfl)
        have HPC : Hid (sineW g = phC f) := Lib.hid (by unfold phC; rw [HG.out])
        have HPS : Hid (sineW f = phS f) := Lib.hid rfl
        clear HQ HF HG
        generalize opw .sub 0 (phC f) = c0 at *
        generalize opw .sub 0 (phS f) = s0 at *
        generalize phC f = c at *
        generalize phS f = s at *
        go_wp2_with fail
        refine (impl_sine _ IG.out.lt (in_small IG.out (by omega) (by omega)) _).mono ?_
        rintro e w' ⟨rfl, m1, rfl⟩
        rw [HPC.out]
        go_wp2_with fail
        refine (impl_sine _ IF.out.lt (in_small IF.out (by omega) (by omega)) _).mono ?_
        rintro e w' ⟨rfl, m2, rfl⟩
        rw [HPS.out]
        go_wp2
        go_ret
        exact .mk' _ (by rw [HR.out]; exact narrow_in IC.out (by omega) (by omega) _) (by rw [HR.out]; exact narrow_in IS.out (by omega) (by omega) _) rfl
      · have HQ : Hid (fQ y = 1) := HQ0
        clear hj4 HQ0
        have HR : Hid (phR y = (some (tr .f64 .f32 (opw .sub 0 (phS f))), some (tr .f64 .f32 (phC f)))) := Lib.hid (by rw [phR_small (finb_iff.2 HS.out.1) HS.out HQ.out, ← HF.out]; rfl)
        have HPC : Hid (sineW g = phC f) := Lib.hid (by unfold phC; rw [HG.out])
        have HPS : Hid (sineW f = phS f) := Lib.hid rfl
        clear HQ HF HG
        generalize opw .sub 0 (phC f) = c0 at *
        generalize opw .sub 0 (phS f) = s0 at *
        generalize phC f = c at *
        generalize phS f = s at *
        go_wp2_with fail
        refine (impl_sine _ IG.out.lt (in_small IG.out (by omega) (by omega)) _).mono ?_
        rintro e w' ⟨rfl, m1, rfl⟩
        rw [HPC.out]
        go_wp2_with fail
        refine (impl_sine _ IF.out.lt (in_small IF.out (by omega) (by omega)) _).mono ?_
        rintro e w' ⟨rfl, m2, rfl⟩
        rw [HPS.out]
        go_wp2
        go_ret
        exact .mk' _ (by rw [HR.out]; exact narrow_in IS0.out (by omega) (by omega) _) (by rw [HR.out]; exact narrow_in IC.out (by omega) (by omega) _) rfl
      · have HQ : Hid (fQ y = 2) := HQ0
        clear hj4 HQ0
        have HR : Hid (phR y = (some (tr .f64 .f32 (opw .sub 0 (phC f))), some (tr .f64 .f32 (opw .sub 0 (phS f))))) := Lib.hid (by rw [phR_small (finb_iff.2 HS.out.1) HS.out HQ.out, ← HF.out]; rfl)
        have HPC : Hid (sineW g = phC f) := Lib.hid (by unfold phC; rw [HG.out])
        have HPS : Hid (sineW f = phS f) := Lib.hid rfl
        clear HQ HF HG
        generalize opw .sub 0 (phC f) = c0 at *
        generalize opw .sub 0 (phS f) = s0 at *
        generalize phC f = c at *
        generalize phS f = s at *
        go_wp2_with fail
        refine (impl_sine _ IG.out.lt (in_small IG.out (by omega) (by omega)) _).mono ?_
        rintro e w' ⟨rfl, m1, rfl⟩
        rw [HPC.out]
        go_wp2_with fail
        refine (impl_sine _ IF.out.lt (in_small IF.out (by omega) (by omega)) _).mono ?_
        rintro e w' ⟨rfl, m2, rfl⟩
        rw [HPS.out]
        go_wp2
        go_ret
        exact .mk' _ (by rw [HR.out]; exact narrow_in IC0.out (by omega) (by omega) _) (by rw [HR.out]; exact narrow_in IS0.out (by omega) (by omega) _) rfl
      · have HQ : Hid (fQ y = 3) := HQ0
        clear hj4 HQ0
        have HR : Hid (phR y = (some (tr .f64 .f32 (phS f)), some (tr .f64 .f32 (opw .sub 0 (phC f))))) := Lib.hid (by rw [phR_small (finb_iff.2 HS.out.1) HS.out HQ.out, ← HF.out]; rfl)
        have HPC : Hid (sineW g = phC f) := Lib.hid (by unfold phC; rw [HG.out])
        have HPS : Hid (sineW f = phS f) := Lib.hid rfl
        clear HQ HF HG
        generalize opw .sub 0 (phC f) = c0 at *
        generalize opw .sub 0 (phS f) = s0 at *
        generalize phC f = c at *
        generalize phS f = s at *
        go_wp2_with fail
        refine (impl_sine _ IG.out.lt (in_small IG.out (by omega) (by omega)) _).mono ?_
        rintro e w' ⟨rfl, m1, rfl⟩
        rw [HPC.out]
        go_wp2_with fail
        refine (impl_sine _ IF.out.lt (in_small IF.out (by omega) (by omega)) _).mono ?_
        rintro e w' ⟨rfl, m2, rfl⟩
        rw [HPS.out]
        go_wp2
        go_ret
        exact .mk' _ (by rw [HR.out]; exact narrow_in IS.out (by omega) (by omega) _) (by rw [HR.out]; exact narrow_in IC0.out (by omega) (by omega) _) rfl
      · have HQ : Hid (fQ y = 4) := HQ0
        clear hj4 HQ0
        have HR : Hid (phR y = (some (tr .f64 .f32 (phC f)), some (tr .f64 .f32 (phS f)))) := Lib.hid (by rw [phR_small (finb_iff.2 HS.out.1) HS.out HQ.out, ← HF.out]; rfl)
        have HPC : Hid (sineW g = phC f) := Lib.hid (by unfold phC; rw [HG.out])
        have HPS : Hid (sineW f = phS f) := Lib.hid rfl
        clear HQ HF HG
        generalize opw .sub 0 (phC f) = c0 at *
        generalize opw .sub 0 (phS f) = s0 at *
        generalize phC f = c at *
        generalize phS f = s at *
        go_wp2_with fail
        refine (impl_sine _ IG.out.lt (in_small IG.out (by omega) (by omega)) _).mono ?_
        rintro e w' ⟨rfl, m1, rfl⟩
        rw [HPC.out]
        go_wp2_with fail
        refine (impl_sine _ IF.out.lt (in_small IF.out (by omega) (by omega)) _).mono ?_
        rintro e w' ⟨rfl, m2, rfl⟩
        rw [HPS.out]
        go_wp2
        go_ret
        exact .mk' _ (by rw [HR.out]; exact narrow_in IC.out (by omega) (by omega) _) (by rw [HR.out]; exact narrow_in IS.out (by omega) (by omega) _) rfl
    · have hst := fq_step HY.out HS.out HGE.out
      have HG1 : Hid (∀ i, i < j + 1 → geq (fq y i) = true) := Lib.hid fun i hi => by
        rcases Nat.lt_or_ge i j with q | q
        · exact HGE.out i q
        · obtain rfl : i = j := by omega
          rw [← HF.out]; exact hc
      unfold geq at hc
      rw [← HF.out] at hst
      obtain ⟨f', hf'⟩ : ∃ f', f' = fq y (j + 1) := ⟨_, rfl⟩
      rw [← hf'] at hst
      have HF' := Lib.hid hf'; clear hf'
      have HJ : Hid (j + 1 ≤ 4) := Lib.hid (fq_le HY.out HS.out HG1.out)
      go_wp2
      go_roundw
      case rel => exact ⟨j + 1, _, _, (by first | rfl | simp only [World.drewN_drewN]), rfl, HF'.out, by go_num, HG1⟩
      case measure => have := HJ.out; simp [intOf]; omega

end Go.Proofs.Ytjpbimfnppmbcaa
