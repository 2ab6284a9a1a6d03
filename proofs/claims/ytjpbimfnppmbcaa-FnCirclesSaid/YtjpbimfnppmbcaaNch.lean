/- What the law on circles asks: the numbers that are drawn, their words. -/
import Derived.Test.YtjpbimfnppmbcaaNcg
import Derived.Test.YtjpbimfnppmbcaaNcw
import Derived.Test.YtjpbimfnppmbcaaFr
namespace Go.Proofs.Ytjpbimfnppmbcaa
open Fl Go.RowKit Ieee

theorem y_at (x : Nat) (h : x < 256) : ∃ Y, (∀ w, fa .quo .f64 (floatOfInt .f64 ((x : Int) - 128)) 4634204016564240384 w = Y) ∧ ∀ w, Calls Try.prog 27 #[.float .f64 Y] w (Ret (.complex .f32 (pR (x % 64)) (pI (x % 64))) w) := by
  obtain ⟨h1, _, _⟩ := y_ok (i := x + 128) (by omega)
  have h2 := phasor_at (x + 128) (by omega)
  have e : ((x + 128 : Nat) : Int) - 256 = (x : Int) - 128 := by omega
  have e2 : (x + 128) % 64 = x % 64 := by omega
  rw [e] at h1 h2
  rw [e2] at h2
  exact ⟨_, h1, h2⟩

theorem y_sum (x y : Nat) (h : x < 256) (h' : y < 256) : ∃ Y, (∀ w, fa .quo .f64 (floatOfInt .f64 ((x : Int) - 128 + ((y : Int) - 128))) 4634204016564240384 w = Y) ∧ ∀ w, Calls Try.prog 27 #[.float .f64 Y] w (Ret (.complex .f32 (pR ((x + y) % 64)) (pI ((x + y) % 64))) w) := by
  obtain ⟨h1, _, _⟩ := y_ok (i := x + y) (by omega)
  have h2 := phasor_at (x + y) (by omega)
  have e : ((x + y : Nat) : Int) - 256 = (x : Int) - 128 + ((y : Int) - 128) := by omega
  rw [e] at h1 h2
  exact ⟨_, h1, h2⟩

def xW (k : Nat) : Nat := (floatBits .quo .f32 (floatOfInt .f32 (1 + (k : Int))) 1090519040).getD 0
def xB (k : Nat) : Bool := (floatBits .quo .f32 (floatOfInt .f32 (1 + (k : Int))) 1090519040).isSome && !notPos (xW k) && decide (N single (xW k) * 2 ^ 3 = ((k + 1 : Nat) : Int) * U single) && decide (xW k < 4294967296)
theorem x_tab : ∀ k : Fin 200, xB k.1 = true := by decide +kernel
theorem x_at (k : Nat) (h : k < 200) : (∀ w, fa .quo .f32 (floatOfInt .f32 (1 + (k : Int))) 1090519040 w = xW k) ∧ IsQ (xW k) (k + 1) 3 := by
  have hb := x_tab ⟨k, h⟩
  simp only [xB, Bool.and_eq_true, decide_eq_true_eq, Bool.not_eq_true'] at hb
  obtain ⟨⟨⟨h1, h2⟩, h3⟩, _⟩ := hb
  obtain ⟨z, hz⟩ := Option.isSome_iff_exists.1 h1
  exact ⟨fun w => by rw [fa_some hz]; unfold xW; rw [hz]; rfl, h2, h3⟩
/-- The word of q / 64. -/
theorem w64 {q : Nat} (h1 : 1 ≤ q) (h2 : q < 2 ^ 24) : ∃ c, fin single c ∧ N single c * 2 ^ 6 = q * U single := by
  have hb : rg0 single q (-6) ≤ rg0 single (2 ^ 24) (-6) := rg0_mono _ _ (Nat.le_of_lt h2)
  have hfin : rg0 single q (-6) < single.infRung := Nat.lt_of_le_of_lt hb (by decide +kernel)
  have hlt0 : rg0 single q (-6) < single.signWeight := Nat.lt_trans hfin single.infRung_lt
  have hnum : num single (rg0 single q (-6)) = q * 2 ^ 143 := by
    have := rg0_rep (f := single) (p := -6) (m := q) h2 (by decide)
    rw [this, show (-6 - single.leastPlace).toNat = 143 by decide]
  have := h1
  refine ⟨single.word false (rg0 single q (-6)), by unfold fin; rw [rung_word _ _ hlt0]; exact hfin, ?_⟩
  rw [N_word _ _ hlt0, if_neg (by simp), hnum, U_nat, show (-single.leastPlace).toNat = 149 by decide]
  have e : q * 2 ^ 143 * 2 ^ 6 = q * 2 ^ 149 := by rw [Nat.mul_assoc, ← Nat.pow_add]
  exact_mod_cast e
theorem pos_not {w : Nat} (hf : finb FloatKind.f32.format w = true) (h : 0 < N single w) : notPos w = false := by
  unfold notPos
  rw [hf]
  have e : FloatKind.f32.format.order w 0 = some (compare (N single w) (N single 0)) := order_fin (f := single) (by decide) (finb_iff.1 hf) (zero_fin .f32)
  have z : N single 0 = 0 := N_zero .f32
  rw [e, z]
  have : compare (N single w) 0 = .gt := by
    rw [order_eq, if_neg (by omega), if_neg (by omega)]
  rw [this]
  rfl
theorem mul_at {x y m n : Nat} (h1 : 1 ≤ m) (h2 : 1 ≤ n) (h3 : m ≤ 200) (h4 : n ≤ 200) (hx : IsQ x m 3) (hy : IsQ y n 3) : ∃ Z, (∀ w, fa .mul .f32 x y w = Z) ∧ IsQ Z (m * n) 6 := by
  have fx := finb_iff.1 (pos_wide hx.1).1
  have fy := finb_iff.1 (pos_wide hy.1).1
  obtain ⟨p1, p2⟩ := mn_lt h2 h1 h3 h4
  obtain ⟨c, cf, cn⟩ := w64 p1 (Nat.lt_trans p2 (by decide))
  have u := U_pos single
  have e : N single x * N single y = N single c * U single := by
    have k : (N single x * 2 ^ 3) * (N single y * 2 ^ 3) = (N single c * 2 ^ 6) * U single := by
      rw [hx.2, hy.2, cn, Int.natCast_mul]
      simp only [Int.mul_assoc, Int.mul_left_comm]
    rw [mmm] at k
    have k2 : (N single c * 2 ^ 6) * U single = (N single c * U single) * (2 ^ 3 * 2 ^ 3) := by
      rw [show (2 : Int) ^ 6 = 2 ^ 3 * 2 ^ 3 by decide]
      simp only [Int.mul_assoc, Int.mul_comm]
    rw [k2] at k
    exact Int.eq_of_mul_eq_mul_right (by decide) k
  obtain ⟨z, hz, hlt, hf, z1, z2⟩ := mul_bd (f := single) (by decide) (by decide) fx fy cf cf (by rw [e]; exact Int.le_refl _) (by rw [e]; exact Int.le_refl _)
  have ez : N single z = N single c := by omega
  have hz' : floatBits .mul .f32 x y = some z := hz
  refine ⟨z, fun w => fa_some hz' w, pos_not (finb_iff.2 hf) ?_, by rw [ez]; exact cn⟩
  rw [ez]
  rcases Int.lt_or_le 0 (N single c) with q | q
  · exact q
  · have k1 : N single c * 2 ^ 6 ≤ 0 * 2 ^ 6 := Int.mul_le_mul_of_nonneg_right q (by decide)
    have k2 : (1 : Int) * U single ≤ ((m * n : Nat) : Int) * U single := Int.mul_le_mul_of_nonneg_right (by omega) (by omega)
    omega
theorem ten_sm {w : Nat} (h : notPos w = false) : -20000 ≤ tenI w ∧ tenI w ≤ 20000 := by
  have hin := tenL_in h
  have hb := (tB_in hin).2
  unfold tenI
  rw [tI_floor hin]
  obtain ⟨f1, f2⟩ := flI_spec (tB (tenL w))
  have u := U_pos double
  have v := V_pos
  have uv := U_V
  have l := hb.lo
  have hh := hb.hi
  constructor
  · rcases Int.lt_or_le (flI (tB (tenL w))) (-20000) with q | q
    · have k : (flI (tB (tenL w)) + 1) * U double ≤ -20000 * U double := Int.mul_le_mul_of_nonneg_right (by omega) (by omega)
      omega
    · exact q
  · rcases Int.lt_or_le 20000 (flI (tB (tenL w))) with q | q
    · have k : 20001 * U double ≤ flI (tB (tenL w)) * U double := Int.mul_le_mul_of_nonneg_right (by omega) (by omega)
      omega
    · exact q
/-- The size of the real part at quarter turns. -/
theorem quarter_at {x : Nat} (h16 : x % 16 = 0) : kRe (x % 64) = 0 ∨ ((kRe (x % 64)).natAbs : Int) = 1099511627776 := by
  have := quarter_tab ⟨x % 64 / 16, by omega⟩
  simp only at this
  rw [show 16 * (x % 64 / 16) = x % 64 by omega] at this
  rcases this with e | e | e
  · exact .inl e
  · rw [e]; exact .inr rfl
  · rw [e]; exact .inr rfl
theorem gap_ex {x : Nat} {k : Int} (hx : Jn (some x) k k) : ((N double x - N double 0).natAbs : Int) = (k.natAbs : Int) * Vf := by
  have a := hx.lo
  have b := hx.hi
  have z : N double 0 = 0 := N_zero .f64
  have e : N double x = k * Vf := by omega
  have v := Vf_pos
  rw [z, Int.sub_zero, e, Int.natAbs_mul, Int.natCast_mul, Int.natAbs_of_nonneg (Int.le_of_lt v)]
theorem ne_yes {g c : Nat} {k m : Int} (hg : Jn (some g) k k) (hc : Jn (some c) m m) (hkm : m < k) : (FloatKind.f64.format.order g c != some .eq) = true := by
  rw [bne, eq_N hg.fin hc.fin, decide_eq_false]
  · rfl
  · intro q
    have := hg.lo
    have := hc.hi
    have := Int.mul_lt_mul_of_pos_right hkm Vf_pos
    omega
theorem same_quarter : same 1048576000 0 = false := by decide +kernel

end Go.Proofs.Ytjpbimfnppmbcaa
