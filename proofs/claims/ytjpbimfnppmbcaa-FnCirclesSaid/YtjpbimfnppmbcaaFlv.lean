/- More on floats in the model: wrapped angles, roots, sines, angles and logarithms stay among the numbers between bounds. -/
import Derived.Test.YtjpbimfnppmbcaaFlu
namespace Go.Proofs.Ytjpbimfnppmbcaa.Fl
open Ieee

/-- A bound on a double's number lets it be narrowed. -/
theorem narrow_fin {z m : Nat} (hz : fin double z) (hm : fin single m) (h1 : -(N single m * 2 ^ gapP) ≤ N double z) (h2 : N double z ≤ N single m * 2 ^ gapP) :
    fin single (single.write (double.read z)) :=
  (conv_bd (f := double) (g := single) (k := gapP) (by decide) hz (by decide) (fin_opp hm) hm (by rw [N_opp, Int.neg_mul]; exact h1) h2).1

theorem narrow_m : fin single 0x59000000 := finb_iff.1 (by decide)
theorem narrow_N : N single 0x59000000 * 2 ^ gapP = 9007199254740992 * V := by decide +kernel

theorem in_fits {z : Nat} {l h : Int} (hi : In (cls .f64 z) l h) (hl : -9007199254740992 ≤ l) (hh : h ≤ 9007199254740992) : fits .f64 .f32 z := by
  intro hz
  obtain ⟨z', e, _, _, a, b⟩ := hi
  rw [cls_fin hz] at e
  cases e
  have v := V_pos
  have k1 : h * V ≤ 9007199254740992 * V := Int.mul_le_mul_of_nonneg_right hh (by omega)
  have k2 : -9007199254740992 * V ≤ l * V := Int.mul_le_mul_of_nonneg_right hl (by omega)
  rw [Int.neg_mul] at k2
  exact narrow_fin hz narrow_m (by rw [narrow_N]; omega) (by rw [narrow_N]; omega)

/-- Twice a single is a double. -/
theorem num_dbl {f : Format} {r : Nat} (h : f.binade ≤ r) : num f (r + f.binade) = 2 * num f r := by
  have hB := binade_pos f
  have e1 : mg f (r + f.binade) = mg f r := by
    unfold mg
    rw [if_neg (by omega), if_neg (by omega), Nat.add_mod_right]
  have e2 : pl f (r + f.binade) = pl f r + 1 := by
    unfold pl
    rw [if_neg (by omega), if_neg (by omega), Nat.add_div_right _ hB]
    have : 1 ≤ r / f.binade := (Nat.le_div_iff_mul_le hB).2 (by omega)
    omega
  have hp := pl_ge f r
  unfold num
  rw [e1, e2, show (pl f r + 1 - f.leastPlace).toNat = (pl f r - f.leastPlace).toNat + 1 by omega, Nat.pow_succ]
  generalize 2 ^ (pl f r - f.leastPlace).toNat = a
  generalize mg f r = b
  rw [← Nat.mul_assoc, Nat.mul_comm]

/-- A bound of the singles, as a power of two. -/
def topP : Nat := 24 + 253

theorem num_single_lt {r : Nat} (h : r < single.infRung) : num single r < 2 ^ topP := by
  have h1 := mg_lt single r
  have h2 := single_pl r h
  unfold num
  have e : (pl single r - single.leastPlace).toNat ≤ 253 := by have : single.leastPlace = -149 := rfl; omega
  have e1 : 2 ^ (pl single r - single.leastPlace).toNat ≤ 2 ^ 253 := Nat.pow_le_pow_right (by omega) e
  have e2 : single.fractionBits + 1 = 24 := rfl
  rw [e2] at h1
  unfold topP
  rw [Nat.pow_add 2 24 253]
  exact Nat.lt_of_le_of_lt (Nat.mul_le_mul_left _ e1) (Nat.mul_lt_mul_of_pos_right h1 (Nat.two_pow_pos _))

theorem wide_num {x : Nat} (hx : fin single x) : num double (rung double (double.write (single.read x))) = num single (rung single x) * 2 ^ gapP := by
  obtain ⟨_, hN, _⟩ := widen hx
  generalize double.write (single.read x) = y at *
  have ha := num_abs double y
  have hs := num_abs single x
  have e2 : (2 : Int).natAbs = 2 := rfl
  have h1 : (N double y).natAbs = (N single x).natAbs * 2 ^ gapP := by rw [hN, Int.natAbs_mul, Int.natAbs_pow, e2]
  have h2 : num double (rung double y) = (N double y).natAbs := by omega
  have h3 : num single (rung single x) = (N single x).natAbs := by omega
  rw [h2, h3, h1]

theorem dbl {x : Nat} (hx : fin single x) (h0 : N single x ≠ 0) : ∃ D, fin double D ∧ N double D = 2 * (N single x * 2 ^ gapP) := by
  obtain ⟨hy, hN, _⟩ := widen hx
  have wn := wide_num hx
  generalize double.write (single.read x) = y at *
  have ha := num_abs double y
  have hs := num_abs single x
  have e : num double (rung double y) = num single (rung single x) * 2 ^ gapP := wn
  have hpos : 1 ≤ num single (rung single x) := by omega
  have lo1 : double.binade ≤ rung double y := by
    rcases Nat.lt_or_ge (rung double y) double.binade with q | q
    · have := num_mono (f := double).2 (Nat.le_of_lt q)
      rw [e] at this
      have k1 : 2 ^ gapP ≤ num single (rung single x) * 2 ^ gapP := Nat.le_mul_of_pos_left _ hpos
      have k2 : num double double.binade < 2 ^ gapP := by decide +kernel
      omega
    · exact q
  have hi1 : rung double y ≤ 5183643171103440896 := by
    refine num_mono (f := double).1 ?_
    rw [e]
    have k1 : num double 5183643171103440896 = 2 ^ topP * 2 ^ gapP := by decide +kernel
    rw [k1]
    exact Nat.mul_le_mul_right _ (Nat.le_of_lt (num_single_lt hx))
  have i1 : double.binade = 4503599627370496 := rfl
  have i2 : double.infRung = 9218868437227405312 := rfl
  have i3 : double.signWeight = 9223372036854775808 := rfl
  have hlt : rung double y + double.binade < double.signWeight := by omega
  refine ⟨double.word (ng double y) (rung double y + double.binade), ?_, ?_⟩
  · unfold fin; rw [rung_word _ _ hlt]; omega
  · rw [N_word _ _ hlt, num_dbl lo1, ← hN]
    unfold N
    cases ng double y
    · simp
    · simp; omega

/-- The floor as an integer. -/
def flI (x : Nat) : Int := if ng double x then -((tq double x + (ng double x && lo double x).toNat : Nat) : Int) else (tq double x : Int)

theorem flI_spec (x : Nat) : flI x * U double ≤ N double x ∧ N double x < (flI x + 1) * U double := by
  have h := tq_spec double x
  have u := U_pos double
  unfold flI
  cases hb : ng double x
  · have e : N double x = (num double (rung double x) : Int) := by unfold N; rw [hb]; rfl
    have ea := num_abs double x
    simp only [Bool.false_eq_true, if_false]
    omega
  · have e : N double x = -(num double (rung double x) : Int) := by unfold N; rw [hb]; rfl
    have ea := num_abs double x
    simp only [if_true, Bool.true_and]
    cases hl : lo double x
    · have hm : (N double x).natAbs % 2 ^ (-double.leastPlace).toNat = 0 := by
        unfold lo at hl; simpa using hl
      have hd := Nat.div_add_mod (N double x).natAbs (2 ^ (-double.leastPlace).toNat)
      rw [hm, Nat.add_zero, Nat.mul_comm] at hd
      have hd' : (tq double x : Int) * U double = ((N double x).natAbs : Int) := by
        rw [U_nat]; unfold tq; exact_mod_cast hd
      simp only [Bool.toNat_false, Nat.add_zero, Int.add_mul, Int.neg_mul, Int.one_mul]
      rw [hd']; omega
    · have hm : (N double x).natAbs % 2 ^ (-double.leastPlace).toNat ≠ 0 := by
        unfold lo at hl; simpa using hl
      have hne : (tq double x : Int) * U double ≠ ((N double x).natAbs : Int) := by
        intro hc
        rw [U_nat] at hc; unfold tq at hc
        have hc' : (N double x).natAbs / 2 ^ (-double.leastPlace).toNat * 2 ^ (-double.leastPlace).toNat = (N double x).natAbs := by exact_mod_cast hc
        have := Nat.div_add_mod (N double x).natAbs (2 ^ (-double.leastPlace).toNat)
        rw [Nat.mul_comm, hc'] at this
        omega
      simp only [Bool.toNat_true, Int.natCast_add, Int.natCast_one, Int.add_mul, Int.neg_mul, Int.one_mul, Int.neg_add] at h ⊢
      omega

/-- The floor lies where its integer lies. -/
theorem flo_bd {x c d : Nat} (hx : fin double x) (hc : fin double c) (hd : fin double d) (h1 : N double c ≤ flI x * U double) (h2 : flI x * U double ≤ N double d) :
    fin double (flo x) ∧ N double c ≤ N double (flo x) ∧ N double (flo x) ≤ N double d := by
  unfold flo
  rw [floor_fin (f := double) (by decide) (by decide) hx]
  have hs := rg_scale double (tq double x + (ng double x && lo double x).toNat) (-double.leastPlace).toNat 0
  rw [show (0 : Int) - ((-double.leastPlace).toNat : Int) = double.leastPlace by decide] at hs
  have u := U_pos double
  have en : (flI x * U double).natAbs = (tq double x + (ng double x && lo double x).toNat) * 2 ^ (-double.leastPlace).toNat := by
    have hfl : (flI x).natAbs = tq double x + (ng double x && lo double x).toNat := by
      unfold flI
      cases hb : ng double x
      · simp
      · simp only [if_true]; omega
    rw [Int.natAbs_mul, U_nat, Int.natAbs_natCast, hfl]
  rw [← hs, ← en]
  refine bd (k := 0) (by decide) ?_ ?_ hc hd (by simpa using h1) (by simpa using h2)
  · intro h
    cases hb : ng double x
    · have e : flI x = (tq double x : Int) := by unfold flI; rw [hb]; rfl
      rw [e] at h
      have := Int.mul_nonneg (show (0 : Int) ≤ tq double x by omega) (Int.le_of_lt u)
      omega
    · rfl
  · intro h
    cases hb : ng double x
    · rfl
    · have e : flI x = -((tq double x + (ng double x && lo double x).toNat : Nat) : Int) := by unfold flI; rw [if_pos hb]
      rw [e, Int.neg_mul] at h
      have := Int.mul_nonneg (show (0 : Int) ≤ ((tq double x + (ng double x && lo double x).toNat : Nat) : Int) by omega) (Int.le_of_lt u)
      omega

theorem qw4 {a : Int} (h : ok (4 * a)) : fin double (qw (4 * a)) ∧ N double (qw (4 * a)) = a * U double := by
  obtain ⟨h1, h2⟩ := qw_spec h.1 h.2
  refine ⟨h1, ?_⟩
  rw [h2, U_V, Int.mul_comm 4 a, Int.mul_assoc]

theorem word_lt64 (s : Bool) {r : Nat} (h : r < double.signWeight) : double.word s r < 2 ^ 64 := by
  have e : double.signWeight = 9223372036854775808 := rfl
  unfold Format.word
  rw [e] at h ⊢
  cases s <;> simp <;> omega

theorem flo_lt {x : Nat} (hx : fin double x) : flo x < 2 ^ 64 := by
  unfold flo
  rw [floor_fin (f := double) (by decide) (by decide) hx]
  exact word_lt64 _ (rg_lt _ _ _)

theorem in_floor {x : Nat} {a b : Int} (hx : In (some x) (4 * a) (4 * b)) (oa : ok (4 * a)) (ob : ok (4 * b)) : In (some (flo x)) (4 * a) (4 * b) := by
  obtain ⟨z, e, hz, hf, l, h⟩ := hx
  cases e
  obtain ⟨ca, na⟩ := qw4 oa
  obtain ⟨cb, nb⟩ := qw4 ob
  have u := U_pos double
  obtain ⟨f1, f2⟩ := flI_spec x
  have e4 : ∀ k : Int, 4 * k * V = k * U double := fun k => by rw [U_V, Int.mul_comm 4 k, Int.mul_assoc]
  rw [e4] at l h
  have k1 : a < flI x + 1 := Int.lt_of_mul_lt_mul_right (Int.lt_of_le_of_lt l f2) (by omega)
  have k2 : flI x ≤ b := by
    rcases Int.lt_or_le b (flI x) with q | q
    · have k : b * U double < flI x * U double := Int.mul_lt_mul_of_pos_right q u
      omega
    · exact q
  obtain ⟨g1, g2, g3⟩ := flo_bd hf ca cb (by rw [na]; exact Int.mul_le_mul_of_nonneg_right (by omega) (by omega)) (by rw [nb]; exact Int.mul_le_mul_of_nonneg_right k2 (by omega))
  exact ⟨_, rfl, flo_lt hf, g1, by rw [e4]; omega, by rw [e4]; omega⟩

theorem half_N : N double 0x3FE0000000000000 = 2 * V := by decide +kernel
theorem half_fin : fin double 0x3FE0000000000000 := finb_iff.1 (by decide)

/-- The wrapped angle, ahead of its last test: no step leaves the finite numbers. -/
theorem wrap_fin {x : Nat} (hx : fin single x) : ∃ s d, cop .add .f64 (some (tr .f32 .f64 x)) (some 0x3FE0000000000000) = some s ∧ fin double s ∧
    cop .sub .f64 (some (tr .f32 .f64 x)) (some (flo s)) = some d ∧ fin double d ∧ fin single (single.write (double.read d)) := by
  obtain ⟨hy, hN, _⟩ := widen hx
  have et : tr .f32 .f64 x = double.write (single.read x) := rfl
  rw [et]
  have hyd := hy
  have ylt : double.write (single.read x) < 2 ^ 64 := by
    rw [(conv_fin (f := single) (g := double) (by decide) hx).2]; exact word_lt64 _ (rg_lt _ _ _)
  have v := V_pos
  have u := U_pos double
  have uv := U_V
  have hcop : ∀ op a b, cop op .f64 (some a) (some b) = floatBits op .f64 a b := fun _ _ _ => rfl
  have hadd : ∀ a b, floatBits .add .f64 a b = double.add a b := fun _ _ => rfl
  have hsub : ∀ a b, floatBits .sub .f64 a b = double.sub a b := fun _ _ => rfl
  have z0 : N double 0 = 0 := N_zero .f64
  have zf : fin double 0 := zero_fin .f64
  rcases Int.lt_or_le (N double (double.write (single.read x))) (2 * V) with q | q
  · rcases Int.lt_or_le (N double (double.write (single.read x))) (-(4 * V)) with q' | q'
    · -- below minus one
      obtain ⟨D, hD, hDN⟩ := dbl hx (by intro h0; rw [h0, Int.zero_mul] at hN; omega)
      rw [← hN] at hDN
      generalize double.write (single.read x) = y at *
      obtain ⟨s, hs, _, fs, s1, s2⟩ := add_bd (f := double) (by decide) hy half_fin hy zf (by rw [half_N]; omega) (by rw [half_N, z0]; omega)
      rw [z0] at s2
      obtain ⟨f1, f2⟩ := flI_spec s
      have k1 : flI s * U double ≥ N double s - U double := by rw [Int.add_mul, Int.one_mul] at f2; omega
      obtain ⟨g1, g2, g3⟩ := flo_bd fs hD zf (by rw [hDN]; omega) (by rw [z0]; omega)
      rw [z0] at g3
      obtain ⟨d, hd, _, fd, d1, d2⟩ := sub_bd (f := double) (by decide) hy g1 hy (fin_opp hy) (by omega) (by rw [N_opp]; omega)
      rw [N_opp] at d2
      exact ⟨s, d, hs, fs, hd, fd, narrow_fin fd (fin_opp hx) (by rw [N_opp, Int.neg_mul]; omega) (by rw [N_opp, Int.neg_mul]; omega)⟩
    · -- near nought
      have hi : In (some (double.write (single.read x))) (-4) 2 := ⟨_, rfl, ylt, hy, by omega, by omega⟩
      have hh : In (some 0x3FE0000000000000) 2 2 := ⟨_, rfl, by decide, half_fin, by rw [half_N]; omega, by rw [half_N]; omega⟩
      have hs := in_mono (in_add hi hh (by unfold ok; omega) (by unfold ok; omega)) (show (4 * (-1) : Int) ≤ -4 + 2 by decide) (show (2 + 2 : Int) ≤ 4 * 1 by decide)
      have hs' := hs
      obtain ⟨s, es, ls, fs, _⟩ := hs'
      rw [es] at hs
      have hf := in_floor hs (by unfold ok; omega) (by unfold ok; omega)
      have hd := in_sub hi hf (by unfold ok; omega) (by unfold ok; omega)
      have hd' := hd
      obtain ⟨d, ed, ld, fd, _⟩ := hd'
      rw [ed] at hd
      refine ⟨s, d, es, fs, ed, fd, ?_⟩
      exact in_fits (z := d) (by rw [cls_fin (k := .f64) fd]; exact hd) (by omega) (by omega) fd
  · -- from a half upwards
    obtain ⟨D, hD, hDN⟩ := dbl hx (by intro h0; rw [h0, Int.zero_mul] at hN; omega)
    rw [← hN] at hDN
    generalize double.write (single.read x) = y at *
    obtain ⟨s, hs, _, fs, s1, s2⟩ := add_bd (f := double) (by decide) hy half_fin hy hD (by rw [half_N]; omega) (by rw [half_N, hDN]; omega)
    obtain ⟨f1, f2⟩ := flI_spec s
    have k1 : 0 ≤ flI s * U double := by
      have : 0 < flI s + 1 := by
        rcases Int.lt_or_le 0 (flI s + 1) with a | a
        · exact a
        · have := Int.mul_nonpos_of_nonpos_of_nonneg a (Int.le_of_lt u); omega
      exact Int.mul_nonneg (by omega) (by omega)
    obtain ⟨g1, g2, g3⟩ := flo_bd fs zf fs (by rw [z0]; exact k1) f1
    rw [z0] at g2
    obtain ⟨d, hd, _, fd, d1, d2⟩ := sub_bd (f := double) (by decide) hy g1 (fin_opp hy) hy (by rw [N_opp]; omega) (by omega)
    rw [N_opp] at d1
    exact ⟨s, d, hs, fs, hd, fd, narrow_fin fd hx (by omega) (by omega)⟩

def rootP : Nat := 1138
/-- The root of a single can be narrowed. -/
theorem sq_fits (x : Nat) (w1 w2 : World) : fits .f64 .f32 (sq (cv .f32 x .f64 w1) w2) := by
  intro hz
  have hc := cls_sq (cv .f32 x .f64 w1) w2
  rw [cls_fin (k := .f64) hz, cls_widen] at hc
  generalize sq (cv .f32 x .f64 w1) w2 = z at *
  show fin single (single.write (double.read z))
  rcases kinds single x with hf | hi | hn
  · rw [cls_fin (k := .f32) hf] at hc
    obtain ⟨hy, hN, _⟩ := widen hf
    have hc' : double.sqrt (double.write (single.read x)) = some z := hc.symm
    generalize double.write (single.read x) = y at *
    rcases Int.lt_or_le (N double y) 0 with q | q
    · have := sqrt_fin (f := double) (by decide) hy
      rw [hc'] at this
      have hr : rung double y ≠ 0 := by
        intro h0; unfold N at q; rw [h0, num_zero] at q; simp at q
      have hg : ng double y = true := by
        cases hb : ng double y
        · unfold N at q; rw [hb] at q; simp at q; omega
        · rfl
      rw [if_neg hr, hg, if_pos rfl] at this
      cases this
    · have m1 : fin double 0x43F0000000000000 := finb_iff.1 (by decide)
      have m2 : N double 0x43F0000000000000 = 2 ^ rootP := by decide +kernel
      have m3 : fin single 0x5F800000 := finb_iff.1 (by decide)
      have m4 : N single 0x5F800000 * 2 ^ gapP = 2 ^ rootP := by decide +kernel
      have hb : N single x ≤ 2 ^ topP := by
        have h1 := num_single_lt hf
        have h2 := num_abs single x
        have h3 : (num single (rung single x) : Int) < ((2 ^ topP : Nat) : Int) := by exact_mod_cast h1
        have h4 : ((2 ^ topP : Nat) : Int) = 2 ^ topP := by simp
        omega
      have h5 : N double y * U double ≤ N double 0x43F0000000000000 * N double 0x43F0000000000000 := by
        rw [hN, m2]
        have e : (2 : Int) ^ rootP * 2 ^ rootP = 2 ^ topP * 2 ^ gapP * U double := by decide +kernel
        rw [e]
        have a1 : N single x * 2 ^ gapP ≤ 2 ^ topP * 2 ^ gapP := Int.mul_le_mul_of_nonneg_right hb (Int.le_of_lt (Int.pow_pos (by decide)))
        exact Int.mul_le_mul_of_nonneg_right a1 (Int.le_of_lt (U_pos double))
      obtain ⟨z', hz', _, fz, z1, z2⟩ := sqrt_bd (f := double) (by decide) (by decide) hy m1 q (by rw [m2]; exact Int.le_of_lt (Int.pow_pos (by decide))) h5
      rw [hc'] at hz'
      cases hz'
      refine narrow_fin fz m3 ?_ (by rw [m4, ← m2]; exact z2)
      rw [m4]
      have : (0 : Int) < 2 ^ rootP := Int.pow_pos (by decide)
      omega
  · exfalso
    have hnn : nan single x = false := by unfold nan; rw [decide_eq_false_iff_not]; omega
    rw [cls_some (k := .f32) hnn] at hc
    have hc' : double.sqrt (double.write (single.read x)) = some z := hc.symm
    rw [read_inf (f := single) (by decide) hi] at hc'
    have er : double.read (double.write (.infinity (ng single x))) = .infinity (ng single x) := by
      have hl := double.infRung_lt
      have e1 : double.write (.infinity (ng single x)) = double.word (ng single x) double.infRung := rfl
      rw [e1, read_inf (f := double) (by decide) (rung_word _ _ hl), ng_word _ _ hl]
    unfold Format.sqrt at hc'
    rw [er] at hc'
    cases hb : ng single x
    · rw [hb] at hc'
      have e1 : some (double.word false double.infRung) = some z := hc'
      cases e1
      have : rung double (double.word false double.infRung) = double.infRung := rung_word _ _ double.infRung_lt
      have hz' : rung double (double.word false double.infRung) < double.infRung := hz
      omega
    · rw [hb] at hc'
      cases hc'
  · rw [cls_none (k := .f32) hn] at hc
    cases hc

/-- A number's opposite, by its sign's bit. -/
theorem neg_spec {b : Nat} (hb : b < 2 ^ 64) (hf : fin double b) : fin double (Op.negFloat .f64 b) ∧ N double (Op.negFloat .f64 b) = -N double b := by
  have es : double.signWeight = 2 ^ 63 := rfl
  have en : Op.negFloat .f64 b = b ^^^ 2 ^ 63 := rfl
  have hm : rung double (Op.negFloat .f64 b) = rung double b := by
    unfold rung
    rw [en, es, Nat.xor_mod_two_pow, Nat.mod_self, Nat.xor_zero]
  have hg : ng double (Op.negFloat .f64 b) = !ng double b := by
    unfold ng
    rw [en, es, Nat.xor_div_two_pow, Nat.div_self (by decide)]
    have hq : b / 2 ^ 63 < 2 := (Nat.div_lt_iff_lt_mul (by decide)).2 (by omega)
    rcases (show b / 2 ^ 63 = 0 ∨ b / 2 ^ 63 = 1 by generalize b / 2 ^ 63 = q at hq; omega) with h | h
    · rw [h]; rfl
    · rw [h]; rfl
  refine ⟨by unfold fin; rw [hm]; exact hf, ?_⟩
  unfold N
  rw [hm, hg]
  cases ng double b <;> simp

theorem in_neg {b : Nat} {l h : Int} (hi : In (some b) l h) : In (some (Op.negFloat .f64 b)) (-h) (-l) := by
  obtain ⟨z, e, hz, hf, l1, h1⟩ := hi
  cases e
  obtain ⟨f1, f2⟩ := neg_spec hz hf
  refine ⟨_, rfl, ?_, f1, ?_, ?_⟩
  · have en : Op.negFloat .f64 b = b ^^^ 2 ^ 63 := rfl
    rw [en]
    exact Nat.xor_lt_two_pow hz (by decide)
  · rw [f2, Int.neg_mul]; omega
  · rw [f2, Int.neg_mul]; omega

@[go_sem] theorem unary_neg_float (k : FloatKind) (b : Nat) : Go.Op.unary .neg (.float k b) = pure (.float k (Go.Op.negFloat k b)) := rfl

/-- An operation's word; nought where it has none. -/
def opw (op : BinOp) (x y : Nat) : Nat := (floatBits op .f64 x y).getD 0

theorem opw_some {op : BinOp} {x y z : Nat} (h : floatBits op .f64 x y = some z) : opw op x y = z := by unfold opw; rw [h]; rfl
theorem fa_some {op : BinOp} {k : FloatKind} {x y z : Nat} (h : floatBits op k x y = some z) (w : World) : fa op k x y w = z := by unfold fa; rw [h]
theorem fd_some {op : BinOp} {k : FloatKind} {x y z : Nat} (h : floatBits op k x y = some z) : fd op k x y = 0 := by unfold fd; rw [h]; rfl

/-- What an operation gives where its answer is a number between bounds. -/
theorem opw_in {op : BinOp} {x y : Nat} {l h : Int} (hi : In (cop op .f64 (some x) (some y)) l h) : (∀ w, fa op .f64 x y w = opw op x y) ∧ In (some (opw op x y)) l h := by
  have e : cop op .f64 (some x) (some y) = floatBits op .f64 x y := rfl
  rw [e] at hi
  obtain ⟨z, hz, r⟩ := hi
  exact ⟨fun w => by rw [fa_some hz, opw_some hz], by rw [opw_some hz]; exact ⟨z, rfl, r⟩⟩

theorem In.fin {x : Nat} {l h : Int} (hi : In (some x) l h) : fin double x := by obtain ⟨z, e, _, hf, _⟩ := hi; cases e; exact hf
theorem In.lt {x : Nat} {l h : Int} (hi : In (some x) l h) : x < 2 ^ 64 := by obtain ⟨z, e, hz, _⟩ := hi; cases e; exact hz
theorem In.cls {x : Nat} {l h : Int} (hi : In (some x) l h) : cls .f64 x = some x := cls_fin (k := .f64) hi.fin
theorem In.lo {x : Nat} {l h : Int} (hi : In (some x) l h) : l * V ≤ N double x := by obtain ⟨z, e, _, _, a, _⟩ := hi; cases e; exact a
theorem In.hi {x : Nat} {l h : Int} (hi : In (some x) l h) : N double x ≤ h * V := by obtain ⟨z, e, _, _, _, a⟩ := hi; cases e; exact a
theorem In.of {x : Nat} {l h : Int} (hl : x < 2 ^ 64) (hf : Fl.fin double x) (h1 : l * V ≤ N double x) (h2 : N double x ≤ h * V) : In (some x) l h := ⟨x, rfl, hl, hf, h1, h2⟩
theorem In.fits {x : Nat} {l h : Int} (hi : In (some x) l h) (hl : -9007199254740992 ≤ l) (hh : h ≤ 9007199254740992) : Fl.fits .f64 .f32 x := in_fits (by rw [hi.cls]; exact hi) hl hh

/-- A comparison of finite doubles. -/
theorem order_N {x y : Nat} (hx : fin double x) (hy : fin double y) : FloatKind.f64.format.order x y = some (compare (N double x) (N double y)) := order_fin (f := double) (by decide) hx hy
theorem lt_N {x y : Nat} (hx : fin double x) (hy : fin double y) : (FloatKind.f64.format.order x y == some .lt) = decide (N double x < N double y) := by rw [order_N hx hy, compare_lt]
theorem gt_N {x y : Nat} (hx : fin double x) (hy : fin double y) : (FloatKind.f64.format.order x y == some .gt) = decide (N double y < N double x) := by rw [order_N hx hy, compare_gt]
theorem eq_N {x y : Nat} (hx : fin double x) (hy : fin double y) : (FloatKind.f64.format.order x y == some .eq) = decide (N double x = N double y) := by rw [order_N hx hy, compare_eq]

theorem ge_N {x y : Nat} (hx : fin double x) (hy : fin double y) : (FloatKind.f64.format.order x y == some .gt || FloatKind.f64.format.order x y == some .eq) = decide (N double y ≤ N double x) := by
  rw [← ge_not_lt (k := .f64) hx hy, lt_N hx hy]
  by_cases h : N double x < N double y
  · rw [decide_eq_true h, decide_eq_false (by omega)]; rfl
  · rw [decide_eq_false h, decide_eq_true (by omega)]; rfl
theorem le_N {x y : Nat} (hx : fin double x) (hy : fin double y) : (FloatKind.f64.format.order x y == some .lt || FloatKind.f64.format.order x y == some .eq) = decide (N double x ≤ N double y) := by
  rw [← le_not_gt (k := .f64) hx hy, gt_N hx hy]
  by_cases h : N double y < N double x
  · rw [decide_eq_true h, decide_eq_false (by omega)]; rfl
  · rw [decide_eq_false h, decide_eq_true (by omega)]; rfl

/-- The whole of a number, without the sign of a nought. -/
def wh (y : Nat) : Nat := if tq double y = 0 then 0 else double.word (ng double y) (rg double (tq double y) 0)
/-- Its whole as an integer. -/
def whI (y : Nat) : Int := if ng double y then -(tq double y : Int) else tq double y

/-- Less than 2^52 in size. -/
def small (y : Nat) : Prop := fin double y ∧ (N double y).natAbs < 2 ^ 52 * 2 ^ (-double.leastPlace).toNat

theorem tq_lt {y : Nat} (h : small y) : tq double y < 2 ^ 52 := by
  unfold tq
  exact (Nat.div_lt_iff_lt_mul (Nat.two_pow_pos _)).2 h.2

theorem wh_spec {y : Nat} (h : small y) : fin double (wh y) ∧ wh y < 2 ^ 64 ∧ N double (wh y) = whI y * U double := by
  have ht := tq_lt h
  unfold wh whI
  by_cases h0 : tq double y = 0
  · rw [if_pos h0, h0]
    refine ⟨zero_fin .f64, by decide, ?_⟩
    have : N double 0 = 0 := N_zero .f64
    rw [this]
    cases ng double y <;> simp
  · rw [if_neg h0]
    obtain ⟨a, b, _⟩ := int_fin (q := tq double y) (by omega) (ng double y)
    exact ⟨a, word_lt64 _ (rg_lt _ _ _), b⟩

/-- The reference's way to it. -/
theorem wh_int {y : Nat} : FloatKind.f64.nearest (whI y) = wh y := by
  rw [nearest_int]
  unfold wh whI
  by_cases h0 : tq double y = 0
  · rw [if_pos h0, h0]
    cases ng double y <;> (simp; rfl)
  · rw [if_neg h0]
    cases hb : ng double y
    · simp only [Bool.false_eq_true, if_false]
      rw [decide_eq_false (by omega), Int.natAbs_natCast]; rfl
    · simp only [if_true]
      rw [decide_eq_true (by omega), Int.natAbs_neg, Int.natAbs_natCast]; rfl

/-- The program's way to it. -/
theorem wh_trunc {y : Nat} (h : small y) : fin double (trn y) ∧ (FloatKind.f64.format.order (trn y) 0 == some .eq) = decide (tq double y = 0) ∧ (tq double y ≠ 0 → trn y = wh y) := by
  have ht := tq_lt h
  have e : trn y = double.word (ng double y) (rg double (tq double y) 0) := trunc_fin (f := double) (by decide) (by decide) h.1
  obtain ⟨a, b, _⟩ := int_fin (q := tq double y) (by omega) (ng double y)
  rw [← e] at a b
  refine ⟨a, ?_, ?_⟩
  · rw [eq_N a (zero_fin .f64), b]
    have z : N double 0 = 0 := N_zero .f64
    have u := U_pos double
    rw [z]
    by_cases h0 : tq double y = 0
    · rw [h0]; cases ng double y <;> simp
    · rw [decide_eq_false h0, decide_eq_false]
      intro hc
      rcases Int.mul_eq_zero.1 hc with q | q
      · cases hb : ng double y <;> rw [hb] at q <;> simp at q <;> omega
      · omega
  · intro h0
    rw [e]; unfold wh; rw [if_neg h0]

/-- What is left of it is less than one in size. -/
theorem rest_in {y : Nat} (hy : y < 2 ^ 64) (h : small y) : In (cop .sub .f64 (some y) (some (wh y))) (-4) 4 := by
  obtain ⟨w1, _, w3⟩ := wh_spec h
  have u := U_pos double
  have v := V_pos
  have uv := U_V
  obtain ⟨t1, t2⟩ := tq_spec double y
  rw [Int.add_mul, Int.one_mul] at t2
  obtain ⟨cf, cn⟩ := qw_spec (l := -4) (by omega) (by omega)
  obtain ⟨df, dn⟩ := qw_spec (l := 4) (by omega) (by omega)
  have ha := num_abs double y
  have hd : -U double ≤ N double y - N double (wh y) ∧ N double y - N double (wh y) ≤ U double := by
    rw [w3]
    unfold whI
    cases hb : ng double y
    · have e : N double y = (num double (rung double y) : Int) := by unfold N; rw [hb]; rfl
      simp only [Bool.false_eq_true, if_false]
      omega
    · have e : N double y = -(num double (rung double y) : Int) := by unfold N; rw [hb]; rfl
      simp only [if_true, Int.neg_mul]
      omega
  have _ := hy
  obtain ⟨z, hz, lz, fz, z1, z2⟩ := sub_bd (f := double) (by decide) h.1 w1 cf df (by rw [cn]; omega) (by rw [dn]; omega)
  exact ⟨z, hz, lz, fz, by omega, by omega⟩

/-- What is left of turns behind the point. -/
def ptA (y : Nat) : Nat := opw .sub y (wh y)
def pt (y : Nat) : Nat := if FloatKind.f64.format.order (ptA y) 0 == some .lt then opw .add (ptA y) 0x3FF0000000000000 else ptA y

theorem ptA_in {y : Nat} (hy : y < 2 ^ 64) (h : small y) : (∀ w, fa .sub .f64 y (wh y) w = ptA y) ∧ In (some (ptA y)) (-4) 4 := opw_in (rest_in hy h)

theorem zeroN : N double 0 = 0 := N_zero .f64
theorem zeroF : fin double 0 := zero_fin .f64

theorem pt_in {y : Nat} (hy : y < 2 ^ 64) (h : small y) : ((FloatKind.f64.format.order (ptA y) 0 == some .lt) = true → ∀ w, fa .add .f64 (ptA y) 0x3FF0000000000000 w = opw .add (ptA y) 0x3FF0000000000000) ∧ In (some (pt y)) 0 4 := by
  have ha := (ptA_in hy h).2
  have v := V_pos
  cases hc : (FloatKind.f64.format.order (ptA y) 0 == some .lt)
  · refine ⟨fun q => (by cases q), ?_⟩
    unfold pt; simp only [hc, Bool.false_eq_true, if_false]
    have : ¬ N double (ptA y) < 0 := by rw [lt_N ha.fin zeroF, zeroN] at hc; simpa using hc
    exact .of ha.lt ha.fin (by omega) ha.hi
  · have hn : N double (ptA y) < 0 := by rw [lt_N ha.fin zeroF, zeroN] at hc; simpa using hc
    have hi : In (some (ptA y)) (-4) 0 := .of ha.lt ha.fin ha.lo (by omega)
    have hs := opw_in (in_add hi in_one (by unfold ok; omega) (by unfold ok; omega))
    refine ⟨fun _ => hs.1, ?_⟩
    unfold pt; rw [hc]; exact hs.2

/-- The half turn that is taken off, and the number in a quarter of a turn. -/
def below (f : Nat) : Bool := (FloatKind.f64.format.order f 0x3FE0000000000000 == some .gt || FloatKind.f64.format.order f 0x3FE0000000000000 == some .eq)
def fdA (f : Nat) : Nat := if below f then opw .sub f 0x3FE0000000000000 else f
def fdB (f : Nat) : Nat := if FloatKind.f64.format.order (fdA f) 0x3FD0000000000000 == some .gt then opw .sub 0x3FE0000000000000 (fdA f) else fdA f

theorem half_in : In (some 0x3FE0000000000000) 2 2 := in_const (by decide) (by decide) (by decide +kernel) (by decide +kernel)
theorem quarter_in : In (some 0x3FD0000000000000) 1 1 := in_const (by decide) (by decide) (by decide +kernel) (by decide +kernel)

theorem fdA_in {f : Nat} (h : In (some f) 0 4) : (below f = true → ∀ w, fa .sub .f64 f 0x3FE0000000000000 w = opw .sub f 0x3FE0000000000000) ∧ In (some (fdA f)) 0 2 := by
  cases hc : below f
  · refine ⟨fun q => (by cases q), ?_⟩
    unfold fdA; simp only [hc, Bool.false_eq_true, if_false]
    unfold below at hc
    rw [ge_N h.fin half_in.fin] at hc
    simp at hc
    have := half_in.hi
    exact .of h.lt h.fin h.lo (by omega)
  · unfold fdA; rw [hc]
    unfold below at hc
    rw [ge_N h.fin half_in.fin] at hc
    simp at hc
    have := half_in.lo
    have hi : In (some f) 2 4 := .of h.lt h.fin (by omega) h.hi
    have hs := opw_in (in_sub hi half_in (by unfold ok; omega) (by unfold ok; omega))
    exact ⟨fun _ => hs.1, hs.2⟩

theorem fdB_in {f : Nat} (h : In (some f) 0 4) : ((FloatKind.f64.format.order (fdA f) 0x3FD0000000000000 == some .gt) = true → ∀ w, fa .sub .f64 0x3FE0000000000000 (fdA f) w = opw .sub 0x3FE0000000000000 (fdA f)) ∧ In (some (fdB f)) 0 1 := by
  have ha := (fdA_in h).2
  cases hc : (FloatKind.f64.format.order (fdA f) 0x3FD0000000000000 == some .gt)
  · refine ⟨fun q => (by cases q), ?_⟩
    unfold fdB; simp only [hc, Bool.false_eq_true, if_false]
    rw [gt_N ha.fin quarter_in.fin] at hc
    simp at hc
    have := quarter_in.hi
    exact .of ha.lt ha.fin ha.lo (by omega)
  · unfold fdB; rw [hc]
    rw [gt_N ha.fin quarter_in.fin] at hc
    simp at hc
    have := quarter_in.lo
    have hi : In (some (fdA f)) 1 2 := .of ha.lt ha.fin (by omega) ha.hi
    have hs := opw_in (in_sub half_in hi (by unfold ok; omega) (by unfold ok; omega))
    exact ⟨fun _ => hs.1, in_mono hs.2 (by omega) (by omega)⟩

def zW (g : Nat) : Nat := opw .mul g 4618760256179416344
def uW (z : Nat) : Nat := opw .mul z z

theorem zW_in {g : Nat} (h : In (some g) 0 1) : (∀ w, fa .mul .f64 g 4618760256179416344 w = zW g) ∧ In (some (zW g)) 0 7 :=
  opw_in (in_mul (c := 0) (d := 7) h (in_mono in_2pi (show (0 : Int) ≤ 25 by decide) (Int.le_refl 26)) (by omega) (by omega) (by omega) (by omega) (by unfold ok; omega) (by unfold ok; omega))
theorem uW_in {z : Nat} (h : In (some z) 0 7) : (∀ w, fa .mul .f64 z z w = uW z) ∧ In (some (uW z)) 0 13 :=
  opw_in (in_sq (h := 7) (d := 13) (in_mono h (by omega) (by omega)) (by omega) (by unfold ok; omega) (by omega))

/-- The loop's numbers: k, 2k, 2k + 1 and 2k(2k + 1), from 8 downwards. -/
def kW (j : Nat) : Nat := [0x4020000000000000, 0x401C000000000000, 0x4018000000000000, 0x4014000000000000, 0x4010000000000000, 0x4008000000000000, 0x4000000000000000, 0x3FF0000000000000, 0].getD j 0
def k2W (j : Nat) : Nat := [0x4030000000000000, 0x402C000000000000, 0x4028000000000000, 0x4024000000000000, 0x4020000000000000, 0x4018000000000000, 0x4010000000000000, 0x4000000000000000].getD j 0
def k3W (j : Nat) : Nat := [0x4031000000000000, 0x402E000000000000, 0x402A000000000000, 0x4026000000000000, 0x4022000000000000, 0x401C000000000000, 0x4014000000000000, 0x4008000000000000].getD j 0
def denW (j : Nat) : Nat := [0x4071000000000000, 0x406A400000000000, 0x4063800000000000, 0x405B800000000000, 0x4052000000000000, 0x4045000000000000, 0x4034000000000000, 0x4018000000000000].getD j 0
def denI (j : Nat) : Int := [272, 210, 156, 110, 72, 42, 20, 6].getD j 0

theorem k_sub : ∀ j, j < 8 → floatBits .sub .f64 (kW j) 0x3FF0000000000000 = some (kW (j + 1)) := by decide +kernel
theorem k_two : ∀ j, j < 8 → floatBits .mul .f64 0x4000000000000000 (kW j) = some (k2W j) := by decide +kernel
theorem k_three : ∀ j, j < 8 → floatBits .add .f64 (k2W j) 0x3FF0000000000000 = some (k3W j) := by decide +kernel
theorem k_den : ∀ j, j < 8 → floatBits .mul .f64 (k2W j) (k3W j) = some (denW j) := by decide +kernel
theorem k_denI : ∀ j, j < 8 → FloatKind.f64.nearest (denI j) = denW j := by decide +kernel
theorem k_more : ∀ j, j < 8 → (FloatKind.f64.format.order (kW j) 0x3FF0000000000000 == some .gt || FloatKind.f64.format.order (kW j) 0x3FF0000000000000 == some .eq) = true := by decide +kernel
theorem k_end : (FloatKind.f64.format.order (kW 8) 0x3FF0000000000000 == some .gt || FloatKind.f64.format.order (kW 8) 0x3FF0000000000000 == some .eq) = false := by decide +kernel
theorem den_in (j : Nat) (h : j < 8) : In (some (denW j)) 24 1088 := by
  have : ∀ j, j < 8 → denW j < 2 ^ 64 ∧ finb double (denW j) = true ∧ 24 * V ≤ N double (denW j) ∧ N double (denW j) ≤ 1088 * V := by decide +kernel
  obtain ⟨a, b, c, d⟩ := this j h
  exact ⟨_, rfl, a, finb_iff.1 b, c, d⟩

/-- The loop's numbers. -/
def upW (u p : Nat) : Nat := opw .mul u p
def qW (u p j : Nat) : Nat := opw .quo (upW u p) (denW j)
def pW (u : Nat) : Nat → Nat
  | 0 => 0x3FF0000000000000
  | j + 1 => opw .sub 0x3FF0000000000000 (qW u (pW u j) j)

theorem up_in {u p : Nat} (hu : In (some u) 0 13) (hp : In (some p) (-12) 12) : (∀ w, fa .mul .f64 u p w = upW u p) ∧ In (some (upW u p)) (-39) 39 :=
  opw_in (in_mul (c := -39) (d := 39) hu hp (by omega) (by omega) (by omega) (by omega) (by unfold ok; omega) (by unfold ok; omega))
theorem q_in {u p j : Nat} (hj : j < 8) (hu : In (some u) 0 13) (hp : In (some p) (-12) 12) : (∀ w, fa .quo .f64 (upW u p) (denW j) w = qW u p j) ∧ In (some (qW u p j)) (-7) 7 :=
  opw_in (in_quo (c := -7) (d := 7) (up_in hu hp).2 (den_in j hj) (by omega) (by omega) (by omega) (by omega) (by omega) (by unfold ok; omega) (by unfold ok; omega))
theorem p_in {u : Nat} (hu : In (some u) 0 13) : ∀ j, j ≤ 8 → In (some (pW u j)) (-12) 12
  | 0, _ => in_mono in_one (by omega) (by omega)
  | j + 1, h => in_mono (opw_in (in_sub in_one (q_in (by omega) hu (p_in hu j (by omega))).2 (by unfold ok; omega) (by unfold ok; omega))).2 (by omega) (by omega)
theorem p_step {u j : Nat} (hj : j < 8) (hu : In (some u) 0 13) : (∀ w, fa .sub .f64 0x3FF0000000000000 (qW u (pW u j) j) w = pW u (j + 1)) :=
  (opw_in (in_sub in_one (q_in hj hu (p_in hu j (by omega))).2 (by unfold ok; omega) (by unfold ok; omega))).1

/-- The sine's size, and the sine. -/
def snA (f : Nat) : Nat := opw .mul (zW (fdB f)) (pW (uW (zW (fdB f))) 8)
theorem snA_in {f : Nat} (h : In (some f) 0 4) : (∀ w, fa .mul .f64 (zW (fdB f)) (pW (uW (zW (fdB f))) 8) w = snA f) ∧ In (some (snA f)) (-21) 21 := by
  have hz := (zW_in (fdB_in h).2).2
  exact opw_in (in_mul (c := -21) (d := 21) hz (p_in (uW_in hz).2 8 (by omega)) (by omega) (by omega) (by omega) (by omega) (by unfold ok; omega) (by unfold ok; omega))
def sineW (y : Nat) : Nat := if below (pt y) then Op.negFloat .f64 (snA (pt y)) else snA (pt y)
theorem sine_in {y : Nat} (hy : y < 2 ^ 64) (h : small y) : In (some (sineW y)) (-21) 21 := by
  have hs := (snA_in (pt_in hy h).2).2
  unfold sineW
  cases below (pt y)
  · exact hs
  · exact in_neg hs

theorem quo_unit {a b : Nat} (ha : fin double a) (hb : fin double b) (h0 : 0 ≤ N double a) (h1 : N double a ≤ N double b) (h2 : 0 < N double b) :
    (∀ w, fa .quo .f64 a b w = opw .quo a b) ∧ In (some (opw .quo a b)) 0 4 := by
  have o1 : fin double 0x3FF0000000000000 := finb_iff.1 (by decide)
  have o2 : N double 0x3FF0000000000000 = U double := by decide +kernel
  have uv := U_V
  have u := U_pos double
  obtain ⟨z, hz, lz, fz, z1, z2, _⟩ := div_bd (f := double) (by decide) (by decide) ha hb zeroF o1 h2 (by rw [zeroN, Int.zero_mul]; exact Int.mul_nonneg h0 (by omega)) (by rw [o2, Int.mul_comm]; exact Int.mul_le_mul_of_nonneg_left h1 (by omega))
  rw [zeroN] at z1
  rw [o2] at z2
  exact opw_in (op := .quo) (x := a) (y := b) ⟨z, hz, lz, fz, by omega, by omega⟩

def sqW (x : Nat) : Nat := (double.sqrt x).getD 0
theorem sq_in {x : Nat} (hx : In (some x) 0 8) : (∀ w, sq x w = sqW x) ∧ In (some (sqW x)) 0 8 := by
  obtain ⟨df, dn⟩ := qw_spec (l := 8) (by omega) (by omega)
  have v := V_pos
  have l := hx.lo
  have h := hx.hi
  obtain ⟨z, hz, lz, fz, z1, z2⟩ := sqrt_bd (f := double) (by decide) (by decide) hx.fin df (by omega) (by rw [dn]; omega) (by
    rw [dn, U_V]
    have k1 : N double x * (4 * V) ≤ 8 * V * (4 * V) := Int.mul_le_mul_of_nonneg_right h (by omega)
    have k2 : 8 * V * (4 * V) ≤ 8 * V * (8 * V) := Int.mul_le_mul_of_nonneg_left (by omega) (by omega)
    omega)
  have e : sqW x = z := by unfold sqW; rw [hz]; rfl
  refine ⟨fun w => ?_, ?_⟩
  · rw [e]; unfold sq; rw [hz]
  · rw [e]; exact ⟨z, rfl, lz, fz, by omega, by omega⟩

/-- One step towards a smaller angle. -/
def tt (t : Nat) : Nat := opw .mul t t
def t1 (t : Nat) : Nat := opw .add 0x3FF0000000000000 (tt t)
def t2 (t : Nat) : Nat := opw .add 0x3FF0000000000000 (sqW (t1 t))
def t3 (t : Nat) : Nat := opw .quo t (t2 t)
theorem tt_in {t : Nat} (h : In (some t) 0 4) : (∀ w, fa .mul .f64 t t w = tt t) ∧ In (some (tt t)) 0 4 :=
  opw_in (in_mul (c := 0) (d := 4) h h (by omega) (by omega) (by omega) (by omega) (by unfold ok; omega) (by unfold ok; omega))
theorem t1_in {t : Nat} (h : In (some t) 0 4) : (∀ w, fa .add .f64 0x3FF0000000000000 (tt t) w = t1 t) ∧ In (some (t1 t)) 4 8 :=
  let hs := opw_in (in_add in_one (tt_in h).2 (by unfold ok; omega) (by unfold ok; omega))
  ⟨hs.1, in_mono hs.2 (by omega) (by omega)⟩
theorem t2s_in {t : Nat} (h : In (some t) 0 4) : (∀ w, sq (t1 t) w = sqW (t1 t)) ∧ In (some (sqW (t1 t))) 0 8 := sq_in (in_mono (t1_in h).2 (by omega) (by omega))
theorem t2_in {t : Nat} (h : In (some t) 0 4) : (∀ w, fa .add .f64 0x3FF0000000000000 (sqW (t1 t)) w = t2 t) ∧ In (some (t2 t)) 4 12 :=
  let hs := opw_in (in_add in_one (t2s_in h).2 (by unfold ok; omega) (by unfold ok; omega))
  ⟨hs.1, in_mono hs.2 (by omega) (by omega)⟩
theorem t3_in {t : Nat} (h : In (some t) 0 4) : (∀ w, fa .quo .f64 t (t2 t) w = t3 t) ∧ In (some (t3 t)) 0 4 :=
  opw_in (in_quo (c := 0) (d := 4) h (t2_in h).2 (by omega) (by omega) (by omega) (by omega) (by omega) (by unfold ok; omega) (by unfold ok; omega))
def tW (t : Nat) : Nat → Nat
  | 0 => t
  | j + 1 => t3 (tW t j)
theorem tW_in {t : Nat} (h : In (some t) 0 4) : ∀ j, In (some (tW t j)) 0 4
  | 0 => h
  | j + 1 => (t3_in (tW_in h j)).2

/-- The sum's numbers: k from 15 downwards, and 1/k. -/
def kA (j : Nat) : Nat := [0x402E000000000000, 0x402A000000000000, 0x4026000000000000, 0x4022000000000000, 0x401C000000000000, 0x4014000000000000, 0x4008000000000000, 0x3FF0000000000000, 0xBFF0000000000000].getD j 0
def kAI (j : Nat) : Int := [15, 13, 11, 9, 7, 5, 3, 1, -1].getD j 0
def rA (j : Nat) : Nat := opw .quo 0x3FF0000000000000 (kA j)
theorem kA_sub : ∀ j, j < 8 → floatBits .sub .f64 (kA j) 0x4000000000000000 = some (kA (j + 1)) := by decide +kernel
theorem kA_int : ∀ j, j < 8 → FloatKind.f64.nearest (kAI j) = kA j := by decide +kernel
theorem kA_more : ∀ j, j < 8 → (FloatKind.f64.format.order (kA j) 0x3FF0000000000000 == some .gt || FloatKind.f64.format.order (kA j) 0x3FF0000000000000 == some .eq) = true := by decide +kernel
theorem kA_end : (FloatKind.f64.format.order (kA 8) 0x3FF0000000000000 == some .gt || FloatKind.f64.format.order (kA 8) 0x3FF0000000000000 == some .eq) = false := by decide +kernel
theorem kA_in (j : Nat) (h : j < 8) : In (some (kA j)) 4 60 := by
  have : ∀ j, j < 8 → kA j < 2 ^ 64 ∧ finb double (kA j) = true ∧ 4 * V ≤ N double (kA j) ∧ N double (kA j) ≤ 60 * V := by decide +kernel
  obtain ⟨a, b, c, d⟩ := this j h
  exact ⟨_, rfl, a, finb_iff.1 b, c, d⟩
theorem rA_in (j : Nat) (h : j < 8) : (∀ w, fa .quo .f64 0x3FF0000000000000 (kA j) w = rA j) ∧ In (some (rA j)) 0 4 :=
  opw_in (in_quo (c := 0) (d := 4) in_one (kA_in j h) (by omega) (by omega) (by omega) (by omega) (by omega) (by unfold ok; omega) (by unfold ok; omega))

def pA (u : Nat) : Nat → Nat
  | 0 => 0
  | j + 1 => opw .sub (rA j) (opw .mul u (pA u j))
theorem zero_in : In (some 0) 0 0 := ⟨0, rfl, by decide, zeroF, by rw [zeroN]; omega, by rw [zeroN]; omega⟩
theorem pA_up {u : Nat} (hu : In (some u) 0 4) {j : Nat} (hj : j ≤ 8) (hp : In (some (pA u j)) (-(4 * j)) (4 * j)) : (∀ w, fa .mul .f64 u (pA u j) w = opw .mul u (pA u j)) ∧ In (some (opw .mul u (pA u j))) (-(4 * j)) (4 * j) :=
  opw_in (in_mul hu hp (by omega) (by omega) (by omega) (by omega) (by unfold ok; omega) (by unfold ok; omega))
theorem pA_in {u : Nat} (hu : In (some u) 0 4) : ∀ j : Nat, j ≤ 8 → In (some (pA u j)) (-(4 * j)) (4 * j)
  | 0, _ => zero_in
  | j + 1, h => in_mono (opw_in (in_sub (rA_in j (by omega)).2 (pA_up hu (by omega) (pA_in hu j (by omega))).2 (by unfold ok; omega) (by unfold ok; omega))).2 (by omega) (by omega)
theorem pA_step {u j : Nat} (hj : j < 8) (hu : In (some u) 0 4) : ∀ w, fa .sub .f64 (rA j) (opw .mul u (pA u j)) w = pA u (j + 1) :=
  (opw_in (in_sub (rA_in j hj).2 (pA_up hu (by omega) (pA_in hu j (by omega))).2 (by unfold ok; omega) (by unfold ok; omega))).1

/-- The angle, ahead of the point's quarter. -/
def anA (t : Nat) : Nat := opw .mul t (pA (tt t) 8)
def anB (t : Nat) : Nat := opw .mul 0x4020000000000000 (anA t)
def anC (t : Nat) : Nat := opw .quo (anB t) 4618760256179416344
theorem eight_in : In (some 0x4020000000000000) 0 32 := in_const (by decide) (by decide) (by decide +kernel) (by decide +kernel)
theorem anA_in {t : Nat} (h : In (some t) 0 4) : (∀ w, fa .mul .f64 t (pA (tt t) 8) w = anA t) ∧ In (some (anA t)) (-32) 32 :=
  opw_in (in_mul (c := -32) (d := 32) h (pA_in (tt_in h).2 8 (by omega)) (by omega) (by omega) (by omega) (by omega) (by unfold ok; omega) (by unfold ok; omega))
theorem anB_in {t : Nat} (h : In (some t) 0 4) : (∀ w, fa .mul .f64 0x4020000000000000 (anA t) w = anB t) ∧ In (some (anB t)) (-256) 256 :=
  opw_in (in_mul (c := -256) (d := 256) eight_in (anA_in h).2 (by omega) (by omega) (by omega) (by omega) (by unfold ok; omega) (by unfold ok; omega))
theorem anC_in {t : Nat} (h : In (some t) 0 4) : (∀ w, fa .quo .f64 (anB t) 4618760256179416344 w = anC t) ∧ In (some (anC t)) (-41) 41 :=
  opw_in (in_quo (c := -41) (d := 41) (anB_in h).2 in_2pi (by omega) (by omega) (by omega) (by omega) (by omega) (by unfold ok; omega) (by unfold ok; omega))

/-- The point's quarter. -/
def an1 (o : Bool) (a : Nat) : Nat := if o then opw .sub 0x3FD0000000000000 a else a
def an2 (o : Bool) (a : Nat) : Nat := if o then opw .sub 0x3FE0000000000000 a else a
def an3 (o : Bool) (a : Nat) : Nat := if o then Op.negFloat .f64 a else a
theorem an1_in (o : Bool) {a : Nat} (h : In (some a) (-41) 41) : (o = true → ∀ w, fa .sub .f64 0x3FD0000000000000 a w = opw .sub 0x3FD0000000000000 a) ∧ In (some (an1 o a)) (-42) 42 := by
  have hs := opw_in (in_sub quarter_in h (by unfold ok; omega) (by unfold ok; omega))
  cases o
  · exact ⟨fun q => (by cases q), in_mono h (by omega) (by omega)⟩
  · exact ⟨fun _ => hs.1, in_mono hs.2 (by omega) (by omega)⟩
theorem an2_in (o : Bool) {a : Nat} (h : In (some a) (-42) 42) : (o = true → ∀ w, fa .sub .f64 0x3FE0000000000000 a w = opw .sub 0x3FE0000000000000 a) ∧ In (some (an2 o a)) (-44) 44 := by
  have hs := opw_in (in_sub half_in h (by unfold ok; omega) (by unfold ok; omega))
  cases o
  · exact ⟨fun q => (by cases q), in_mono h (by omega) (by omega)⟩
  · exact ⟨fun _ => hs.1, in_mono hs.2 (by omega) (by omega)⟩
theorem an3_in (o : Bool) {a : Nat} (h : In (some a) (-44) 44) : In (some (an3 o a)) (-44) 44 := by
  cases o
  · exact h
  · exact in_mono (in_neg h) (by omega) (by omega)

/-! ### Doubling and halving -/
def w75 : Nat := 0x3FE8000000000000
def w150 : Nat := 0x3FF8000000000000
def B52 : Nat := 4503599627370496

theorem binade_B : double.binade = B52 := rfl
theorem inf_B : double.infRung = 9218868437227405312 := rfl
theorem pos_rung {x : Nat} (h : x < double.infRung) : rung double x = x ∧ ng double x = false := by
  have e : double.signWeight = 9223372036854775808 := rfl
  rw [inf_B] at h
  unfold rung ng
  rw [e, Nat.mod_eq_of_lt (by omega), Nat.div_eq_of_lt (by omega)]
  exact ⟨rfl, rfl⟩
theorem pos_fin {x : Nat} (h : x < double.infRung) : fin double x := by unfold fin; rw [(pos_rung h).1]; exact h
theorem pos_N {x : Nat} (h : x < double.infRung) : N double x = (num double x : Int) := by unfold N; rw [(pos_rung h).1, (pos_rung h).2]; rfl
theorem pos_le {x y : Nat} (hx : x < double.infRung) (hy : y < double.infRung) : N double x ≤ N double y ↔ x ≤ y := by
  rw [pos_N hx, pos_N hy, ← num_mono (f := double) (r := x) (t := y)]; omega
theorem pos_lt_N {x y : Nat} (hx : x < double.infRung) (hy : y < double.infRung) : (FloatKind.f64.format.order x y == some .lt) = decide (x < y) := by
  rw [lt_N (pos_fin hx) (pos_fin hy)]
  have := pos_le hy hx
  by_cases h : x < y
  · rw [decide_eq_true h, decide_eq_true (by omega)]
  · rw [decide_eq_false h, decide_eq_false (by omega)]
theorem pos_ge_N {x y : Nat} (hx : x < double.infRung) (hy : y < double.infRung) : (FloatKind.f64.format.order x y == some .gt || FloatKind.f64.format.order x y == some .eq) = decide (y ≤ x) := by
  rw [ge_N (pos_fin hx) (pos_fin hy)]
  have := pos_le hy hx
  by_cases h : y ≤ x
  · rw [decide_eq_true h, decide_eq_true (by omega)]
  · rw [decide_eq_false h, decide_eq_false (by omega)]
theorem pos_lt64 {x : Nat} (h : x < double.infRung) : x < 2 ^ 64 := by rw [inf_B] at h; omega

theorem two_N : N double 0x4000000000000000 = 2 * U double := by decide +kernel
theorem two_fin : fin double 0x4000000000000000 := finb_iff.1 (by decide)

theorem num_pos {x : Nat} (h : 1 ≤ x) : 0 < num double x := by
  have := num_mono (f := double) (r := x) (t := 0)
  rw [num_zero] at this
  omega

theorem dblw {x : Nat} (h1 : B52 ≤ x) (h2 : x + B52 < double.infRung) : floatBits .mul .f64 x 0x4000000000000000 = some (x + B52) := by
  have hx : x < double.infRung := by unfold B52 at *; omega
  have e1 : N double (x + B52) = 2 * N double x := by
    rw [pos_N h2, pos_N hx, show x + B52 = x + double.binade from rfl, num_dbl (f := double) h1]; omega
  have hm : N double x * N double 0x4000000000000000 = N double (x + B52) * U double := by
    rw [e1, two_N, Int.mul_left_comm, Int.mul_assoc]
  obtain ⟨z, hz, lz, fz, z1, z2⟩ := mul_bd (f := double) (by decide) (by decide) (pos_fin hx) two_fin (pos_fin h2) (pos_fin h2) (by rw [hm]; omega) (by rw [hm]; omega)
  have hN : N double z = N double (x + B52) := by omega
  have hne : N double (x + B52) ≠ 0 := by rw [pos_N h2]; have := num_pos (x := x + B52) (by unfold B52; omega); omega
  have : z = x + B52 := eq_of_N (f := double) lz (pos_lt64 h2) hN (by rw [ng_of_N (by rw [hN]; exact hne), ng_of_N hne, hN])
  rw [← this]; exact hz

theorem halvew {x : Nat} (h1 : 2 * B52 ≤ x) (h2 : x < double.infRung) : floatBits .quo .f64 x 0x4000000000000000 = some (x - B52) := by
  have hy : x - B52 < double.infRung := by omega
  have e1 : N double x = 2 * N double (x - B52) := by
    have e : x = (x - B52) + double.binade := by rw [binade_B]; unfold B52 at *; omega
    have := num_dbl (f := double) (r := x - B52) (by rw [binade_B]; unfold B52 at *; omega)
    rw [← e] at this
    rw [pos_N h2, pos_N hy, this]; omega
  have hm : N double (x - B52) * N double 0x4000000000000000 = N double x * U double := by
    rw [e1, two_N, Int.mul_left_comm, Int.mul_assoc]
  have u := U_pos double
  obtain ⟨z, hz, lz, fz, z1, z2, _⟩ := div_bd (f := double) (by decide) (by decide) (pos_fin h2) two_fin (pos_fin hy) (pos_fin hy) (by rw [two_N]; omega) (by rw [hm]; omega) (by rw [hm]; omega)
  have hN : N double z = N double (x - B52) := by omega
  have hne : N double (x - B52) ≠ 0 := by rw [pos_N hy]; have := num_pos (x := x - B52) (by unfold B52 at *; omega); omega
  have : z = x - B52 := eq_of_N (f := double) lz (pos_lt64 hy) hN (by rw [ng_of_N (by rw [hN]; exact hne), ng_of_N hne, hN])
  rw [← this]; exact hz

/-- A positive single, as a double: its word. -/
theorem wide_word {x : Nat} (hx : fin single x) (h0 : 0 < N single x) : 3000000000000000000 ≤ tr .f32 .f64 x ∧ tr .f32 .f64 x ≤ 5183643171103440896 := by
  obtain ⟨hy, hN, hg⟩ := widen hx
  have et : tr .f32 .f64 x = double.write (single.read x) := rfl
  have ylt : double.write (single.read x) < 2 ^ 64 := by
    rw [(conv_fin (f := single) (g := double) (by decide) hx).2]; exact word_lt64 _ (rg_lt _ _ _)
  rw [et]
  have wn := wide_num hx
  generalize double.write (single.read x) = y at *
  have g0 : ng single x = false := by rw [ng_of_N (by omega)]; simp; omega
  rw [g0] at hg
  have ey : rung double y = y := by
    have e : double.signWeight = 2 ^ 63 := rfl
    unfold ng at hg
    unfold rung
    rw [e] at hg ⊢
    have hq : y / 2 ^ 63 < 2 := (Nat.div_lt_iff_lt_mul (by decide)).2 (by omega)
    have : y / 2 ^ 63 = 0 := by
      rcases (show y / 2 ^ 63 = 0 ∨ y / 2 ^ 63 = 1 by generalize y / 2 ^ 63 = q at hq; omega) with h | h
      · exact h
      · rw [h] at hg; simp at hg
    have hd := Nat.div_add_mod y (2 ^ 63)
    rw [this] at hd; omega
  have hf := hy
  unfold fin at hf
  rw [ey] at hf
  rw [pos_N hf] at hN
  have e : num double y = num single (rung single x) * 2 ^ gapP := by rw [ey] at wn; exact wn
  have hs := num_abs single x
  have hpos : 1 ≤ num single (rung single x) := by omega
  constructor
  · refine num_mono (f := double).1 ?_
    rw [e]
    have k2 : num double 3000000000000000000 ≤ 2 ^ gapP := by decide +kernel
    have k1 : 2 ^ gapP ≤ num single (rung single x) * 2 ^ gapP := Nat.le_mul_of_pos_left _ hpos
    omega
  · refine num_mono (f := double).1 ?_
    rw [e]
    have k1 : num double 5183643171103440896 = 2 ^ topP * 2 ^ gapP := by decide +kernel
    rw [k1]
    exact Nat.mul_le_mul_right _ (Nat.le_of_lt (num_single_lt hx))

/-- The exponent, as a double. -/
def eN (n : Int) : Nat := FloatKind.f64.nearest n
theorem eN_down : ∀ j : Nat, j < 512 → floatBits .sub .f64 (eN (-(j : Int))) 0x3FF0000000000000 = some (eN (-((j + 1 : Nat) : Int))) := by decide +kernel
theorem eN_up : ∀ j : Nat, j < 512 → floatBits .add .f64 (eN (j : Int)) 0x3FF0000000000000 = some (eN ((j + 1 : Nat) : Int)) := by decide +kernel
theorem eN_in {n : Int} (h1 : -512 ≤ n) (h2 : n ≤ 512) : In (some (eN n)) (-2048) 2048 := by
  unfold eN
  rw [nearest_int]
  obtain ⟨a, b, _⟩ := int_fin (q := n.natAbs) (by omega) (decide (n < 0))
  have v := V_pos
  have e : (if decide (n < 0) = true then -(n.natAbs : Int) else n.natAbs) * U double = 4 * n * V := by
    rw [U_V, ← Int.mul_assoc, Int.mul_comm 4 n]
    congr 2
    by_cases h : n < 0
    · rw [if_pos (by simpa using h)]; omega
    · rw [if_neg (by simpa using h)]; omega
  refine In.of (x := double.word (decide (n < 0)) (rg double n.natAbs 0)) (word_lt64 _ (rg_lt _ _ _)) a ?_ ?_
  · rw [b, e]; exact Int.mul_le_mul_of_nonneg_right (by omega) (by omega)
  · rw [b, e]; exact Int.mul_le_mul_of_nonneg_right (by omega) (by omega)

theorem mul_comm_fin {x y : Nat} (hx : fin double x) (hy : fin double y) : floatBits .mul .f64 x y = floatBits .mul .f64 y x := by
  show double.mul x y = double.mul y x
  rw [mul_fin (by decide) hx hy, mul_fin (by decide) hy hx, Bool.xor_comm, Int.mul_comm]
theorem in_mulr {x y : Nat} {h1 l2 h2 c d : Int} (hx : In (some x) l2 h2) (hy : In (some y) 0 h1) (hl : l2 ≤ 0) (hh : 0 ≤ h2) (hc : c * 4 ≤ h1 * l2) (hd : h1 * h2 ≤ d * 4) (oc : ok c) (od : ok d) :
    (∀ w, fa .mul .f64 x y w = opw .mul x y) ∧ In (some (opw .mul x y)) c d := by
  refine opw_in ?_
  have e : cop .mul .f64 (some x) (some y) = cop .mul .f64 (some y) (some x) := mul_comm_fin hx.fin hy.fin
  rw [e]
  exact in_mul hy hx hl hh hc hd oc od

/-! ### The logarithm of a number from 3/4 to 3/2 -/
def sA (x : Nat) : Nat := opw .sub x 0x3FF0000000000000
def sB (x : Nat) : Nat := opw .add x 0x3FF0000000000000
def sC (x : Nat) : Nat := opw .quo (sA x) (sB x)
def sU (x : Nat) : Nat := opw .mul (sC x) (sC x)
theorem sA_in {x : Nat} (h : In (some x) 3 6) : (∀ w, fa .sub .f64 x 0x3FF0000000000000 w = sA x) ∧ In (some (sA x)) (-1) 2 :=
  by
  have hs := opw_in (in_sub h in_one (by unfold ok; omega) (by unfold ok; omega))
  exact ⟨hs.1, in_mono hs.2 (by omega) (by omega)⟩
theorem sB_in {x : Nat} (h : In (some x) 3 6) : (∀ w, fa .add .f64 x 0x3FF0000000000000 w = sB x) ∧ In (some (sB x)) 7 10 :=
  by
  have hs := opw_in (in_add h in_one (by unfold ok; omega) (by unfold ok; omega))
  exact ⟨hs.1, in_mono hs.2 (by omega) (by omega)⟩
theorem sC_in {x : Nat} (h : In (some x) 3 6) : (∀ w, fa .quo .f64 (sA x) (sB x) w = sC x) ∧ In (some (sC x)) (-1) 2 :=
  opw_in (in_quo (c := -1) (d := 2) (sA_in h).2 (sB_in h).2 (by omega) (by omega) (by omega) (by omega) (by omega) (by unfold ok; omega) (by unfold ok; omega))
theorem sU_in {x : Nat} (h : In (some x) 3 6) : (∀ w, fa .mul .f64 (sC x) (sC x) w = sU x) ∧ In (some (sU x)) 0 1 :=
  opw_in (in_sq (h := 2) (d := 1) (in_mono (sC_in h).2 (by omega) (by omega)) (by omega) (by unfold ok; omega) (by omega))

def kL (j : Nat) : Nat := [0x4039000000000000, 0x4037000000000000, 0x4035000000000000, 0x4033000000000000, 0x4031000000000000, 0x402E000000000000, 0x402A000000000000, 0x4026000000000000, 0x4022000000000000, 0x401C000000000000, 0x4014000000000000, 0x4008000000000000, 0x3FF0000000000000, 0xBFF0000000000000].getD j 0
def kLI (j : Nat) : Int := [25, 23, 21, 19, 17, 15, 13, 11, 9, 7, 5, 3, 1, -1].getD j 0
def rL (j : Nat) : Nat := opw .quo 0x3FF0000000000000 (kL j)
theorem kL_sub : ∀ j, j < 13 → floatBits .sub .f64 (kL j) 0x4000000000000000 = some (kL (j + 1)) := by decide +kernel
theorem kL_int : ∀ j, j < 13 → FloatKind.f64.nearest (kLI j) = kL j := by decide +kernel
theorem kL_more : ∀ j, j < 13 → (FloatKind.f64.format.order (kL j) 0x3FF0000000000000 == some .gt || FloatKind.f64.format.order (kL j) 0x3FF0000000000000 == some .eq) = true := by decide +kernel
theorem kL_end : (FloatKind.f64.format.order (kL 13) 0x3FF0000000000000 == some .gt || FloatKind.f64.format.order (kL 13) 0x3FF0000000000000 == some .eq) = false := by decide +kernel
theorem kL_in (j : Nat) (h : j < 13) : In (some (kL j)) 4 100 := by
  have : ∀ j, j < 13 → kL j < 2 ^ 64 ∧ finb double (kL j) = true ∧ 4 * V ≤ N double (kL j) ∧ N double (kL j) ≤ 100 * V := by decide +kernel
  obtain ⟨a, b, c, d⟩ := this j h
  exact ⟨_, rfl, a, finb_iff.1 b, c, d⟩
theorem rL_in (j : Nat) (h : j < 13) : (∀ w, fa .quo .f64 0x3FF0000000000000 (kL j) w = rL j) ∧ In (some (rL j)) 0 4 :=
  opw_in (in_quo (c := 0) (d := 4) in_one (kL_in j h) (by omega) (by omega) (by omega) (by omega) (by omega) (by unfold ok; omega) (by unfold ok; omega))
def qL (u : Nat) : Nat → Nat
  | 0 => 0
  | j + 1 => opw .add (rL j) (opw .mul u (qL u j))
theorem qL_up {u q : Nat} (hu : In (some u) 0 1) (hp : In (some q) 0 6) : (∀ w, fa .mul .f64 u q w = opw .mul u q) ∧ In (some (opw .mul u q)) 0 2 :=
  opw_in (in_mul (c := 0) (d := 2) hu hp (by omega) (by omega) (by omega) (by omega) (by unfold ok; omega) (by unfold ok; omega))
theorem qL_in {u : Nat} (hu : In (some u) 0 1) : ∀ j : Nat, j ≤ 13 → In (some (qL u j)) 0 6
  | 0, _ => in_mono zero_in (by omega) (by omega)
  | j + 1, h => in_mono (opw_in (in_add (rL_in j (by omega)).2 (qL_up hu (qL_in hu j (by omega))).2 (by unfold ok; omega) (by unfold ok; omega))).2 (by omega) (by omega)
theorem qL_step {u j : Nat} (hj : j < 13) (hu : In (some u) 0 1) : ∀ w, fa .add .f64 (rL j) (opw .mul u (qL u j)) w = qL u (j + 1) :=
  (opw_in (in_add (rL_in j hj).2 (qL_up hu (qL_in hu j (by omega))).2 (by unfold ok; omega) (by unfold ok; omega))).1

def lA (x : Nat) : Nat := opw .mul (sC x) (qL (sU x) 13)
def lB (x : Nat) : Nat := opw .mul 0x4000000000000000 (lA x)
def lE (e : Int) : Nat := opw .mul (eN e) 0x3FE62E42FEFA39EF
def lC (x : Nat) (e : Int) : Nat := opw .add (lB x) (lE e)
theorem two_in : In (some 0x4000000000000000) 0 8 := in_const (by decide) (by decide) (by decide +kernel) (by decide +kernel)
theorem ln2_in : In (some 0x3FE62E42FEFA39EF) 0 3 := in_const (by decide) (by decide) (by decide +kernel) (by decide +kernel)
theorem lA_in {x : Nat} (h : In (some x) 3 6) : (∀ w, fa .mul .f64 (sC x) (qL (sU x) 13) w = lA x) ∧ In (some (lA x)) (-2) 3 :=
  in_mulr (c := -2) (d := 3) (sC_in h).2 (qL_in (sU_in h).2 13 (by omega)) (by omega) (by omega) (by omega) (by omega) (by unfold ok; omega) (by unfold ok; omega)
theorem lB_in {x : Nat} (h : In (some x) 3 6) : (∀ w, fa .mul .f64 0x4000000000000000 (lA x) w = lB x) ∧ In (some (lB x)) (-4) 6 :=
  opw_in (in_mul (c := -4) (d := 6) two_in (lA_in h).2 (by omega) (by omega) (by omega) (by omega) (by unfold ok; omega) (by unfold ok; omega))
theorem lE_in {e : Int} (h1 : -512 ≤ e) (h2 : e ≤ 512) : (∀ w, fa .mul .f64 (eN e) 0x3FE62E42FEFA39EF w = lE e) ∧ In (some (lE e)) (-1536) 1536 :=
  in_mulr (c := -1536) (d := 1536) (eN_in h1 h2) ln2_in (by omega) (by omega) (by omega) (by omega) (by unfold ok; omega) (by unfold ok; omega)
theorem lC_in {x : Nat} {e : Int} (h : In (some x) 3 6) (h1 : -512 ≤ e) (h2 : e ≤ 512) : (∀ w, fa .add .f64 (lB x) (lE e) w = lC x e) ∧ In (some (lC x e)) (-1540) 1542 :=
  let hs := opw_in (in_add (lB_in h).2 (lE_in h1 h2).2 (by unfold ok; omega) (by unfold ok; omega))
  ⟨hs.1, in_mono hs.2 (by omega) (by omega)⟩

/-- The tenths, and their integer. -/
def tA (l : Nat) : Nat := opw .mul l 0x4045B6F8288662F3
def tB (l : Nat) : Nat := opw .add (tA l) 0x3FE0000000000000
def tI (l : Nat) : Int := if ng double (flo (tB l)) then -(tq double (flo (tB l)) : Int) else tq double (flo (tB l))
theorem tC_in : In (some 0x4045B6F8288662F3) 0 174 := in_const (by decide) (by decide) (by decide +kernel) (by decide +kernel)
theorem tA_in {l : Nat} (h : In (some l) (-1540) 1542) : (∀ w, fa .mul .f64 l 0x4045B6F8288662F3 w = tA l) ∧ In (some (tA l)) (-70000) 70000 :=
  in_mulr (c := -70000) (d := 70000) h tC_in (by omega) (by omega) (by omega) (by omega) (by unfold ok; omega) (by unfold ok; omega)
theorem tB_in {l : Nat} (h : In (some l) (-1540) 1542) : (∀ w, fa .add .f64 (tA l) 0x3FE0000000000000 w = tB l) ∧ In (some (tB l)) (4 * (-20000)) (4 * 20000) := by
  have hs := opw_in (in_add (tA_in h).2 half_in (by unfold ok; omega) (by unfold ok; omega))
  exact ⟨hs.1, in_mono hs.2 (by omega) (by omega)⟩
theorem tI_val {l : Nat} (h : In (some l) (-1540) 1542) : floatToIntVal .f64 (flo (tB l)) .i64 = some (tI l) := by
  have hf := in_floor (tB_in h).2 (by unfold ok; omega) (by unfold ok; omega)
  have ht := toInt_fin (f := double) (by decide) (by decide) hf.fin
  have hs := (tq_spec double (flo (tB l))).1
  have hl := hf.lo
  have hh := hf.hi
  have v := V_pos
  have uv := U_V
  have hq : (tq double (flo (tB l)) : Int) ≤ 20000 := by
    rcases Int.lt_or_le 20000 (tq double (flo (tB l)) : Int) with q | q
    · have k : 20001 * U double ≤ (tq double (flo (tB l)) : Int) * U double := Int.mul_le_mul_of_nonneg_right (by omega) (by omega)
      omega
    · exact q
  have hb : -9223372036854775808 ≤ tI l ∧ tI l ≤ 9223372036854775807 := by
    unfold tI
    cases ng double (flo (tB l))
    · simp only [Bool.false_eq_true, if_false]; omega
    · simp only [if_true]; omega
  unfold floatToIntVal
  have e : (FloatKind.f64.decode (flo (tB l))).toInt .zero = some (tI l) := ht
  rw [e]
  simp only
  rw [if_pos]
  exact ⟨by have : IntKind.i64.min = -9223372036854775808 := by decide
            omega, by have : IntKind.i64.max = 9223372036854775807 := by decide
                      omega⟩

end Go.Proofs.Ytjpbimfnppmbcaa.Fl
