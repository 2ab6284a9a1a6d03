/- Tenths of decibels: between which integers they lie. -/
import Derived.Test.YtjpbimfnppmbcaaNct
namespace Go.Proofs.Ytjpbimfnppmbcaa
open Fl Go.RowKit Ieee

def tX (n : Nat) : Nat := st (Nat.log2 n) fun L => cond (Nat.ble (Nat.mul 3 (Nat.pow 2 L)) (Nat.mul 2 n)) (Nat.mul n (Nat.pow 2 (Nat.sub 39 L))) (Nat.mul n (Nat.pow 2 (Nat.sub 40 L)))
def tE (n : Nat) : Nat := st (Nat.log2 n) fun L => cond (Nat.ble (Nat.mul 3 (Nat.pow 2 L)) (Nat.mul 2 n)) (Nat.succ L) L
theorem ble_yes {a b : Nat} (h : a ≤ b) : Nat.ble a b = true := Nat.ble_eq_true_of_le h
theorem ble_no {a b : Nat} (h : b < a) : Nat.ble a b = false := Bool.eq_false_iff.2 (fun q => by have := Nat.le_of_ble_eq_true q; omega)
theorem tX_spec {n : Nat} (h1 : 1 ≤ n) (h2 : n < 65536) : 824633720832 ≤ tX n ∧ tX n < 1649267441664 ∧ tX n * 2 ^ tE n = n * 1099511627776 ∧ tE n ≤ 16 := by
  unfold tX tE
  simp only [st_eq]
  have hL := Nat.log2_self_le (show n ≠ 0 by omega)
  have hU := @Nat.lt_log2_self n
  have hl : n.log2 ≤ 15 := by
    have := (Nat.log2_lt (show n ≠ 0 by omega)).2 (show n < 2 ^ 16 from h2)
    omega
  generalize n.log2 = L at *
  have e : 2 ^ L * 2 ^ (39 - L) = 549755813888 := by rw [← Nat.pow_add, show L + (39 - L) = 39 by omega]
  have e2 : 2 ^ (40 - L) = 2 * 2 ^ (39 - L) := by rw [show 40 - L = (39 - L) + 1 by omega, Nat.pow_succ, Nat.mul_comm]
  have e3 : 2 ^ (L + 1) = 2 * 2 ^ L := by rw [Nat.pow_succ, Nat.mul_comm]
  rw [e3] at hU
  by_cases c : 3 * 2 ^ L ≤ 2 * n
  · have hb : Nat.ble (Nat.mul 3 (Nat.pow 2 L)) (Nat.mul 2 n) = true := ble_yes c
    rw [hb]
    show 824633720832 ≤ n * 2 ^ (39 - L) ∧ n * 2 ^ (39 - L) < 1649267441664 ∧ n * 2 ^ (39 - L) * 2 ^ (L + 1) = n * 1099511627776 ∧ L + 1 ≤ 16
    rw [e3]
    generalize 2 ^ L = P at *
    generalize 2 ^ (39 - L) = Q at *
    have k1 := Nat.mul_le_mul_right Q c
    have hq : 0 < Q := by rcases Nat.eq_zero_or_pos Q with q | q; (rw [q] at e; omega); exact q
    have k2 := Nat.mul_lt_mul_of_pos_right hU hq
    rw [Nat.mul_assoc, e, Nat.mul_assoc] at k1
    rw [Nat.mul_assoc, e] at k2
    refine ⟨by omega, by omega, ?_, by omega⟩
    rw [Nat.mul_assoc, show Q * (2 * P) = 2 * (P * Q) by rw [Nat.mul_comm Q, Nat.mul_assoc], e]
  · have hb : Nat.ble (Nat.mul 3 (Nat.pow 2 L)) (Nat.mul 2 n) = false := ble_no (Nat.lt_of_not_le c)
    rw [hb]
    show 824633720832 ≤ n * 2 ^ (40 - L) ∧ n * 2 ^ (40 - L) < 1649267441664 ∧ n * 2 ^ (40 - L) * 2 ^ L = n * 1099511627776 ∧ L ≤ 16
    rw [e2]
    generalize 2 ^ L = P at *
    generalize 2 ^ (39 - L) = Q at *
    have hq : 0 < Q := by rcases Nat.eq_zero_or_pos Q with q | q; (rw [q] at e; omega); exact q
    have k1 := Nat.mul_le_mul_right Q hL
    have k2 := Nat.mul_lt_mul_of_pos_right (Nat.lt_of_not_le c) hq
    rw [e] at k1
    rw [Nat.mul_assoc, Nat.mul_assoc, e] at k2
    have k3 : n * (2 * Q) = 2 * (n * Q) := by rw [Nat.mul_left_comm]
    rw [k3]
    refine ⟨by omega, by omega, ?_, by omega⟩
    rw [show 2 * (n * Q) * P = n * (2 * (P * Q)) by simp only [Nat.mul_assoc, Nat.mul_left_comm, Nat.mul_comm P Q], e]

theorem num_shift {r : Nat} (h : double.binade ≤ r) : ∀ k : Nat, num double (r + k * 4503599627370496) = num double r * 2 ^ k
  | 0 => by simp
  | k + 1 => by
    have := num_dbl (f := double) (r := r + k * 4503599627370496) (by omega)
    rw [num_shift h k] at this
    rw [show r + (k + 1) * 4503599627370496 = r + k * 4503599627370496 + double.binade by rw [show double.binade = 4503599627370496 from rfl]; omega, this, Nat.pow_succ]
    rw [Nat.mul_comm 2, Nat.mul_assoc]
theorem num_inj {r t : Nat} (h : num double r = num double t) : r = t := by
  have a := (num_mono (f := double) (r := r) (t := t)).1 (by omega)
  have b := (num_mono (f := double) (r := t) (t := r)).1 (by omega)
  omega
theorem lg_uniq {y M k : Nat} (m1 : 4604930618986332160 ≤ M) (m2 : M < 4609434218613702656) : (y = M + k * 4503599627370496 → lgM y = M ∧ lgE y = k) ∧ (M = y + k * 4503599627370496 → lgM y = M ∧ lgE y = -(k : Int)) := by
  unfold lgM lgE lgU lgD
  constructor
  · rintro rfl
    split <;> omega
  · rintro rfl
    split <;> omega
theorem pos_num {y : Nat} (h : y < 9218868437227405312) : N double y = (num double y : Int) ∧ rung double y = y := by
  have hr : rung double y = y := Nat.mod_eq_of_lt (show y < double.signWeight by rw [show double.signWeight = 9223372036854775808 from rfl]; omega)
  have hn : ng double y = false := by
    unfold ng
    rw [show double.signWeight = 9223372036854775808 from rfl, Nat.div_eq_of_lt (by omega)]; rfl
  refine ⟨?_, hr⟩
  unfold N
  rw [hn, hr, if_neg (by simp)]
theorem w75_N : num double 4604930618986332160 = 824633720832 * 2 ^ fp := by decide +kernel
theorem w150_N : num double 4609434218613702656 = 1649267441664 * 2 ^ fp := by decide +kernel
theorem Vf_nat : Vf = ((2 ^ fp : Nat) : Int) := by unfold Vf; simp
theorem lg_word {y n s : Nat} (hn1 : 1 ≤ n) (hn : n < 65536) (hy : lgR y) (hN : N double y * 2 ^ s = n * U double) : lgM y = fw (tX n) ∧ lgE y = (tE n : Int) - s := by
  obtain ⟨x1, x2, x3, x4⟩ := tX_spec hn1 hn
  generalize tX n = X at *
  generalize tE n = E at *
  have hyl : y < 9218868437227405312 := by unfold lgR at hy; omega
  obtain ⟨ny, ry⟩ := pos_num hyl
  obtain ⟨Mf, Mn⟩ := fw_spec (l := (X : Int)) (by omega) (by omega)
  have hM : fw (X : Int) = rg double X (-40) := by
    unfold fw
    rw [decide_eq_false (by omega), Int.natAbs_natCast]; rfl
  have hMl : fw (X : Int) < 9218868437227405312 := by
    have := Mf
    unfold fin at this
    rw [show rung double (fw (X : Int)) = fw (X : Int) from Nat.mod_eq_of_lt (by rw [hM]; exact rg_lt _ _ _)] at this
    exact this
  obtain ⟨nM, rM⟩ := pos_num hMl
  generalize fw (X : Int) = M at *
  rw [nM, Vf_nat, ← Int.natCast_mul] at Mn
  have Mn' := Int.ofNat_inj.1 Mn
  have hp : 0 < 2 ^ fp := Nat.two_pow_pos fp
  have m1 : 4604930618986332160 ≤ M := (num_mono (f := double)).1 (by rw [w75_N, Mn']; exact Nat.mul_le_mul_right _ x1)
  have m2 : M < 4609434218613702656 := by
    rcases Nat.lt_or_ge M 4609434218613702656 with q | q
    · exact q
    · have := (num_mono (f := double)).2 q
      rw [w150_N, Mn'] at this
      have := Nat.le_of_mul_le_mul_right this hp
      omega
  have key : num double y * 2 ^ s = num double M * 2 ^ E := by
    rw [ny, U_Vf, Vf_nat] at hN
    have h2 : num double y * 2 ^ s = n * (1099511627776 * 2 ^ fp) := by
      have e : ((num double y * 2 ^ s : Nat) : Int) = ((n * (1099511627776 * 2 ^ fp) : Nat) : Int) := by
        rw [Int.natCast_mul, Int.natCast_mul, Int.natCast_mul]
        simpa using hN
      exact Int.ofNat_inj.1 e
    rw [h2, Mn', Nat.mul_right_comm, x3, Nat.mul_assoc]
  obtain ⟨u1, u2⟩ := lg_uniq (y := y) (M := M) (k := E - s) m1 m2
  obtain ⟨_, u4⟩ := lg_uniq (y := y) (M := M) (k := s - E) m1 m2
  have hb : double.binade = 4503599627370496 := rfl
  rcases Nat.le_total s E with c | c
  · have e : num double y = num double M * 2 ^ (E - s) := by
      have : num double y * 2 ^ s = num double M * 2 ^ (E - s) * 2 ^ s := by rw [key, Nat.mul_assoc, ← Nat.pow_add, show E - s + s = E by omega]
      exact Nat.eq_of_mul_eq_mul_right (Nat.two_pow_pos s) this
    rw [← num_shift (by rw [hb]; omega)] at e
    obtain ⟨a, b⟩ := u1 (num_inj e)
    exact ⟨a, by rw [b]; omega⟩
  · have e : num double M = num double y * 2 ^ (s - E) := by
      have : num double M * 2 ^ E = num double y * 2 ^ (s - E) * 2 ^ E := by rw [← key, Nat.mul_assoc, ← Nat.pow_add, show s - E + E = s by omega]
      exact Nat.eq_of_mul_eq_mul_right (Nat.two_pow_pos E) this
    rw [← num_shift (by rw [hb]; unfold lgR at hy; omega)] at e
    obtain ⟨a, b⟩ := u4 (num_inj e)
    exact ⟨a, by rw [b]; omega⟩

/-- The logarithm's parts. -/
def sl (X : Nat) : Nat := cond (Nat.ble 1099511627776 X) (Nat.div (Nat.mul (Nat.sub X 1099511627776) 1099511627776) (Nat.add X 1099511627776)) (Nat.div (Nat.mul (Nat.sub 1099511627776 X) 1099511627776) (Nat.add X 1099511627776))
def bL (X : Nat) : Nat := st (sl X) fun s => st (Nat.div (Nat.mul s s) 1099511627776) fun u => st (hlo u) fun q => Nat.mul 2 (Nat.div (Nat.mul s q) 1099511627776)
def bH (X : Nat) : Nat := st (Nat.succ (sl X)) fun s => st (Nat.succ (Nat.div (Nat.mul s s) 1099511627776)) fun u => st (hhi u) fun q => Nat.mul 2 (Nat.succ (Nat.div (Nat.mul s q) 1099511627776))
theorem one_jn : Jn (some 0x3FF0000000000000) 1099511627776 1099511627776 := jn_const (by decide +kernel)
theorem two_jn : Jn (some 0x4000000000000000) ((2199023255552 : Nat) : Int) ((2199023255552 : Nat) : Int) := jn_const (by decide +kernel)
theorem twice_jn {l h : Int} {z : Nat} (hz : Jn (some z) l h) (h1 : -4503599627370496 ≤ l) (h2 : h ≤ 4503599627370496) (h3 : l ≤ h) : Jn (some (opw .mul 0x4000000000000000 z)) (2 * l) (2 * h) := by
  obtain ⟨z', e, hl, hf, z1, z2⟩ := hz
  cases e
  obtain ⟨cf, cn⟩ := fw_spec (l := 2 * l) (by omega) (by omega)
  obtain ⟨df, dn⟩ := fw_spec (l := 2 * h) (by omega) (by omega)
  obtain ⟨y, ey, _, yf, y1, y2⟩ := two_jn
  cases ey
  have v := Vf_pos
  have hy : N double 0x4000000000000000 = 2 * U double := by decide +kernel
  obtain ⟨w, hw, hlt, wf, w1, w2⟩ := mul_bd (f := double) (by decide) (by decide) yf hf cf df (by rw [cn, hy, Int.mul_assoc 2, Int.mul_assoc 2, Int.mul_assoc 2, Int.mul_comm (U double)]; exact Int.mul_le_mul_of_nonneg_left (Int.mul_le_mul_of_nonneg_right z1 (Int.le_of_lt (U_pos double))) (by omega))
    (by rw [dn, hy, Int.mul_assoc 2, Int.mul_assoc 2, Int.mul_assoc 2, Int.mul_comm (U double)]; exact Int.mul_le_mul_of_nonneg_left (Int.mul_le_mul_of_nonneg_right z2 (Int.le_of_lt (U_pos double))) (by omega))
  rw [opw_some (op := .mul) hw]
  exact ⟨w, rfl, hlt, wf, by rw [← cn]; exact w1, by rw [← dn]; exact w2⟩

theorem n_add (a b : Nat) : Nat.add a b = a + b := rfl
theorem n_sub (a b : Nat) : Nat.sub a b = a - b := rfl
theorem n_mul (a b : Nat) : Nat.mul a b = a * b := rfl
theorem n_div (a b : Nat) : Nat.div a b = a / b := rfl
/-- The quotient (x - 1) / (x + 1). -/
theorem sC_core {X s : Nat} {z : Nat} (hz : z = fw (X : Int)) (x1 : 824633720832 ≤ X) (x2 : X < 1649267441664)
    (es : (1099511627776 ≤ X ∧ s = (X - 1099511627776) * 1099511627776 / (X + 1099511627776)) ∨ (X < 1099511627776 ∧ s = (1099511627776 - X) * 1099511627776 / (X + 1099511627776))) :
    s ≤ 274877906944 ∧ ((1099511627776 ≤ X ∧ Jn (some (sC z)) (s : Int) ((s + 1 : Nat) : Int)) ∨ (X < 1099511627776 ∧ Jn (some (sC z)) (-((s + 1 : Nat) : Int)) (-(s : Int)))) := by
  obtain ⟨xf, xn⟩ := fw_spec (l := (X : Int)) (by omega) (by omega)
  have hx : Jn (some (fw (X : Int))) X X := ⟨_, rfl, fw_lt _, xf, by rw [xn]; exact Int.le_refl _, by rw [xn]; exact Int.le_refl _⟩
  rw [← hz] at hx
  clear hz xf xn
  have hA := opw_jn (jn_sub hx one_jn (okf_of (by omega) (by omega)) (okf_of (by omega) (by omega)))
  have hB := opw_jn (jn_add hx one_jn (okf_of (by omega) (by omega)) (okf_of (by omega) (by omega)))
  have s4 : s ≤ 274877906944 := by
    rcases es with ⟨c, e⟩ | ⟨c, e⟩ <;> rw [e] <;> exact Nat.div_le_of_le_mul (by omega)
  refine ⟨s4, ?_⟩
  obtain ⟨Y, hY⟩ : ∃ Y, Y = X + 1099511627776 := ⟨_, rfl⟩
  rw [← hY] at es
  have hYi : (X : Int) + 1099511627776 = (Y : Int) := by omega
  rw [hYi] at hB
  have hY0 : 0 < Y := by omega
  rcases es with ⟨c, e⟩ | ⟨c, e⟩
  · refine .inl ⟨c, ?_⟩
    obtain ⟨D, hD⟩ : ∃ D, D = (X - 1099511627776) * 1099511627776 := ⟨_, rfl⟩
    have hDi : ((X : Int) - 1099511627776) * 1099511627776 = (D : Int) := by omega
    rw [← hD] at e
    have d1 : s * Y ≤ D := by rw [e]; exact Nat.div_mul_le_self D Y
    have d2 : D ≤ (s + 1) * Y := by rw [e, Nat.add_mul, Nat.one_mul]; exact Nat.le_of_lt (Nat.lt_div_mul_add hY0)
    have f1 := Int.ofNat_le.2 d1
    have f2 := Int.ofNat_le.2 d2
    rw [Int.natCast_mul] at f1 f2
    exact opw_jn (jn_quo hA hB (by omega) (by rw [hDi]; exact f1) (by rw [hDi]; exact f1) (by rw [hDi]; exact f2) (by rw [hDi]; exact f2) (okf_of (by omega) (by omega)) (okf_of (by omega) (by omega)))
  · refine .inr ⟨c, ?_⟩
    obtain ⟨D, hD⟩ : ∃ D, D = (1099511627776 - X) * 1099511627776 := ⟨_, rfl⟩
    have hDi : ((X : Int) - 1099511627776) * 1099511627776 = -(D : Int) := by omega
    rw [← hD] at e
    have d1 : s * Y ≤ D := by rw [e]; exact Nat.div_mul_le_self D Y
    have d2 : D ≤ (s + 1) * Y := by rw [e, Nat.add_mul, Nat.one_mul]; exact Nat.le_of_lt (Nat.lt_div_mul_add hY0)
    have f1 := Int.neg_le_neg (Int.ofNat_le.2 d1)
    have f2 := Int.neg_le_neg (Int.ofNat_le.2 d2)
    rw [Int.natCast_mul, ← Int.neg_mul] at f1 f2
    exact opw_jn (jn_quo hA hB (by omega) (by rw [hDi]; exact f2) (by rw [hDi]; exact f2) (by rw [hDi]; exact f1) (by rw [hDi]; exact f1) (okf_of (by omega) (by omega)) (okf_of (by omega) (by omega)))
theorem lB_core {X s ql qh z : Nat} (s4 : s ≤ 274877906944) (hC : (1099511627776 ≤ X ∧ Jn (some (sC z)) (s : Int) ((s + 1 : Nat) : Int)) ∨ (X < 1099511627776 ∧ Jn (some (sC z)) (-((s + 1 : Nat) : Int)) (-(s : Int))))
    (eql : ql = qlo (s * s / 1099511627776) 13) (eqh : qh = qhi ((s + 1) * (s + 1) / 1099511627776 + 1) 13) :
    (1099511627776 ≤ X → Jn (some (lB z)) ((2 * (s * ql / 1099511627776) : Nat) : Int) ((2 * ((s + 1) * qh / 1099511627776 + 1) : Nat) : Int)) ∧
    (X < 1099511627776 → Jn (some (lB z)) (-((2 * ((s + 1) * qh / 1099511627776 + 1) : Nat) : Int)) (-((2 * (s * ql / 1099511627776) : Nat) : Int))) ∧
    2 * (s * ql / 1099511627776) ≤ 2 * ((s + 1) * qh / 1099511627776 + 1) ∧ 2 * ((s + 1) * qh / 1099511627776 + 1) ≤ 2199023255552 := by
  have hpp := Nat.mul_le_mul (show s + 1 ≤ 274877906945 by omega) (show s + 1 ≤ 274877906945 by omega)
  have hu2 := Nat.div_le_div_right (c := 1099511627776) (Nat.mul_le_mul (show s ≤ s + 1 by omega) (show s ≤ s + 1 by omega))
  have hk1 : (s + 1) * (s + 1) / 1099511627776 + 1 ≤ 549755813888 := by
    generalize (s + 1) * (s + 1) = p at *
    omega
  have hU := opw_jn (jn_sqN (a := some (sC z)) (l := s) (h := s + 1) (by rcases hC with ⟨_, h⟩ | ⟨_, h⟩; (exact .inl h); exact .inr h) (by omega) (Nat.le_trans hk1 (by omega)))
  obtain ⟨hQ, q1, q2⟩ := q_jn hU (Nat.le_trans hu2 (Nat.le_succ _)) hk1 13 (by omega)
  change Jn (some (qL (sU z) 13)) _ _ at hQ
  rw [← eql, ← eqh] at hQ
  rw [← eql, ← eqh] at q1
  rw [← eqh] at q2
  clear hU eql eqh hk1 hu2 hpp
  have hpl := Nat.mul_le_mul (show s ≤ s + 1 by omega) q1
  have hph := Nat.mul_le_mul (show s + 1 ≤ 274877906945 by omega) q2
  have hpd := Nat.div_le_div_right (c := 1099511627776) hpl
  have hk : (s + 1) * qh / 1099511627776 + 1 ≤ 1099511627776 := by generalize (s + 1) * qh = p at *; omega
  have b1 : 1099511627776 ≤ X → Jn (some (lA z)) ((s * ql / 1099511627776 : Nat) : Int) (((s + 1) * qh / 1099511627776 + 1 : Nat) : Int) := fun c => by
    rcases hC with ⟨_, hC⟩ | ⟨c', _⟩
    · exact opw_jn (jn_posN hC hQ (by omega) q1 (by omega))
    · omega
  have b2 : X < 1099511627776 → Jn (some (lA z)) (-(((s + 1) * qh / 1099511627776 + 1 : Nat) : Int)) (-((s * ql / 1099511627776 : Nat) : Int)) := fun c => by
    rcases hC with ⟨c', _⟩ | ⟨_, hC⟩
    · omega
    · exact opw_jn (jn_negN hC hQ (by omega) q1 (by omega))
  generalize s * ql / 1099511627776 = p at *
  generalize (s + 1) * qh / 1099511627776 = q at *
  clear hpl hph hC hQ
  refine ⟨fun c => ?_, fun c => ?_, by omega, by omega⟩
  · have := twice_jn (b1 c) (by omega) (by omega) (by omega)
    rw [Int.natCast_mul 2, Int.natCast_mul 2]
    exact this
  · have := twice_jn (b2 c) (by omega) (by omega) (by omega)
    rw [Int.natCast_mul 2, Int.natCast_mul 2, ← Int.mul_neg, ← Int.mul_neg]
    exact this
theorem sl_eq (X : Nat) : (1099511627776 ≤ X ∧ sl X = (X - 1099511627776) * 1099511627776 / (X + 1099511627776)) ∨ (X < 1099511627776 ∧ sl X = (1099511627776 - X) * 1099511627776 / (X + 1099511627776)) := by
  rcases Nat.lt_or_ge X 1099511627776 with c | c
  · exact .inr ⟨c, by unfold sl; rw [ble_no c, cond_false, n_div, n_mul, n_sub, n_add]⟩
  · exact .inl ⟨c, by unfold sl; rw [ble_yes c, cond_true, n_div, n_mul, n_sub, n_add]⟩
theorem bL_eq (X : Nat) : bL X = 2 * (sl X * qlo (sl X * sl X / 1099511627776) 13 / 1099511627776) := by
  unfold bL
  simp only [st_eq, hlo_eq, n_div, n_mul]
theorem bH_eq (X : Nat) : bH X = 2 * ((sl X + 1) * qhi ((sl X + 1) * (sl X + 1) / 1099511627776 + 1) 13 / 1099511627776 + 1) := by
  unfold bH
  simp only [st_eq, hhi_eq, n_div, n_mul, Nat.succ_eq_add_one]
/-- The logarithm of a number from 3/4 to 3/2, between two of the lattice. -/
theorem lB_jn {X : Nat} (x1 : 824633720832 ≤ X) (x2 : X < 1649267441664) :
    (1099511627776 ≤ X → Jn (some (lB (fw X))) (bL X) (bH X)) ∧ (X < 1099511627776 → Jn (some (lB (fw X))) (-(bH X : Int)) (-(bL X : Int))) ∧ bL X ≤ bH X ∧ bH X ≤ 2199023255552 := by
  obtain ⟨s4, hC⟩ := sC_core (z := fw (X : Int)) rfl x1 x2 (sl_eq X)
  rw [bL_eq, bH_eq]
  exact lB_core s4 hC rfl rfl

/-- The multiples of ln 2. -/
def lamI (i : Nat) : Int := [-4572740308715, -3810616923930, -3048493539144, -2286370154358, -1524246769572, -762123384786, 0, 762123384785, 1524246769571, 2286370154357, 3048493539143, 3810616923929, 4572740308714, 5334863693500, 6096987078286, 6859110463072, 7621233847858, 8383357232643, 9145480617429, 9907604002215, 10669727387001, 11431850771787, 12193974156572].getD i 0
theorem lam_tab : ∀ i : Fin 23, jcB (lE ((i.1 : Int) - 6)) (lamI i.1) (lamI i.1 + 1) = true := by decide +kernel
theorem lam_small : ∀ i : Fin 23, -4572740308715 ≤ lamI i.1 ∧ lamI i.1 ≤ 12193974156572 := by decide +kernel
/-- A product with 10 / ln 10 tenths, and a half, and the floor. -/
def mLo (a : Int) : Int := (a * (if a < 0 then 47751183273158 else 47751183273157)) / 1099511627776
def mHi (b : Int) : Int := (b * (if b < 0 then 47751183273157 else 47751183273158)) / 1099511627776 + 1
theorem c_jn : Jn (some 0x4045B6F8288662F3) 47751183273157 47751183273158 := jn_const (by decide +kernel)
theorem half_jn : Jn (some 0x3FE0000000000000) 549755813888 549755813888 := jn_const (by decide +kernel)
def tLo (a : Int) : Nat := ((mLo a + 549755813888) / 1099511627776 + 1000).toNat
def tHi (b : Int) : Nat := ((mHi b + 549755813888) / 1099511627776 + 1000).toNat
theorem t_bd {l : Nat} {a b : Int} (h : Jn (some l) a b) (hi : In (some l) (-1540) 1542) (h1 : -35184372088832 ≤ a) (h2 : a ≤ b) (h3 : b ≤ 35184372088832) : (1 ≤ tLo a → (tLo a : Int) - 1000 ≤ tI l) ∧ tI l ≤ (tHi b : Int) - 1000 := by
  rw [tI_floor hi]
  have hm : Jn (some (tA l)) (mLo a) (mHi b) := by
    refine opw_jn (jn_mul h c_jn (by omega) ?_ ?_ ?_ ?_ (okf_of ?_ ?_) (okf_of ?_ ?_)) <;> (first | unfold mLo | unfold mHi) <;> split <;> omega
  have hb : Jn (some (tB l)) (mLo a + 549755813888) (mHi b + 549755813888) := opw_jn (jn_add hm half_jn (okf_of (by unfold mLo; split <;> omega) (by unfold mLo; split <;> omega)) (okf_of (by unfold mHi; split <;> omega) (by unfold mHi; split <;> omega)))
  refine ⟨fun hp => ?_, ?_⟩
  · refine flI_lo hb ?_
    unfold tLo at hp ⊢
    generalize mLo a + 549755813888 = p at *
    omega
  · refine flI_hi hb ?_
    unfold tHi
    generalize mHi b + 549755813888 = p at *
    omega
/-- Between which integers the tenths of n / 2^s lie (each 1000 greater); k is 6 - s. -/
def cLo (X i : Nat) : Int := cond (Nat.ble 1099511627776 X) (Int.ofNat (bL X) + lamI i) (lamI i - Int.ofNat (bH X))
def cHi (X i : Nat) : Int := cond (Nat.ble 1099511627776 X) (Int.ofNat (bH X) + (lamI i + 1)) (lamI i + 1 - Int.ofNat (bL X))
def TL (n k : Nat) : Nat := st (tX n) fun X => st (Nat.add (tE n) k) fun i => tLo (cLo X i)
def TH (n k : Nat) : Nat := st (tX n) fun X => st (Nat.add (tE n) k) fun i => tHi (cHi X i)
theorem U_gapP : U single * 2 ^ gapP = U double := by
  unfold U
  rw [show (-single.leastPlace).toNat = 149 by decide, show (-double.leastPlace).toNat = 149 + gapP by decide, Int.pow_add]
theorem c_core {l : Nat} {X p q : Nat} {e lam : Int} {c1 c2 : Int} {z : Nat} (el : l = lC z e)
    (b1 : 1099511627776 ≤ X → Jn (some (lB z)) p q) (b2 : X < 1099511627776 → Jn (some (lB z)) (-(q : Int)) (-(p : Int))) (b3 : p ≤ q) (b4 : q ≤ 2199023255552)
    (l1 : Jn (some (lE e)) lam (lam + 1)) (l2 : -4572740308715 ≤ lam ∧ lam ≤ 12193974156572)
    (e1 : c1 = cond (Nat.ble 1099511627776 X) (Int.ofNat p + lam) (lam - Int.ofNat q)) (e2 : c2 = cond (Nat.ble 1099511627776 X) (Int.ofNat q + (lam + 1)) (lam + 1 - Int.ofNat p)) :
    Jn (some l) c1 c2 ∧ -35184372088832 ≤ c1 ∧ c1 ≤ c2 ∧ c2 ≤ 35184372088832 := by
  subst el
  rcases Nat.lt_or_ge X 1099511627776 with c | c
  · rw [ble_no c, cond_false, Int.ofNat_eq_natCast] at e1 e2
    exact ⟨jn_mono (opw_jn (jn_add (b2 c) l1 (okf_of (by omega) (by omega)) (okf_of (by omega) (by omega)))) (by omega) (by omega), by omega, by omega, by omega⟩
  · rw [ble_yes c, cond_true, Int.ofNat_eq_natCast] at e1 e2
    exact ⟨jn_mono (opw_jn (jn_add (b1 c) l1 (okf_of (by omega) (by omega)) (okf_of (by omega) (by omega)))) (by omega) (by omega), by omega, by omega, by omega⟩
theorem TL_eq (n k : Nat) : TL n k = tLo (cond (Nat.ble 1099511627776 (tX n)) (Int.ofNat (bL (tX n)) + lamI (tE n + k)) (lamI (tE n + k) - Int.ofNat (bH (tX n)))) := by
  unfold TL cLo
  simp only [st_eq, n_add]
theorem TH_eq (n k : Nat) : TH n k = tHi (cond (Nat.ble 1099511627776 (tX n)) (Int.ofNat (bH (tX n)) + (lamI (tE n + k) + 1)) (lamI (tE n + k) + 1 - Int.ofNat (bL (tX n)))) := by
  unfold TH cHi
  simp only [st_eq, n_add]
theorem ten_bd {w n s : Nat} (h0 : notPos w = false) (hn1 : 1 ≤ n) (hn : n < 65536) (hs : s ≤ 6) (hN : N single w * 2 ^ s = n * U single) :
    (1 ≤ TL n (6 - s) → (TL n (6 - s) : Int) - 1000 ≤ tenI w) ∧ tenI w ≤ (TH n (6 - s) : Int) - 1000 := by
  obtain ⟨hf, hr⟩ := pos_wide h0
  have hw := (widen (finb_iff.1 hf)).2.1
  change N double (tr .f32 .f64 w) = _ at hw
  have hNd : N double (tr .f32 .f64 w) * 2 ^ s = n * U double := by
    rw [hw, Int.mul_right_comm, hN, Int.mul_assoc, U_gapP]
  obtain ⟨e1, e2⟩ := lg_word hn1 hn hr hNd
  obtain ⟨x1, x2, _, x4⟩ := tX_spec hn1 hn
  have hin := tenL_in h0
  have el : tenL w = lC (fw (tX n : Int)) ((tE n : Int) - s) := by unfold tenL; rw [e1, e2]
  obtain ⟨b1, b2, b3, b4⟩ := lB_jn x1 x2
  rw [TL_eq, TH_eq]
  clear hNd hw hf hr hN e1 e2 x1 x2 h0 hn1 hn
  generalize bL (tX n) = p at *
  generalize bH (tX n) = q at *
  generalize tX n = X at *
  generalize tE n = E at *
  have hk : E + (6 - s) < 23 := by clear b1 b2 b3 b4 el; omega
  have l1 := jn_const (lam_tab ⟨E + (6 - s), hk⟩)
  have l2 := lam_small ⟨E + (6 - s), hk⟩
  simp only at l1 l2
  rw [show ((E + (6 - s) : Nat) : Int) - 6 = (E : Int) - s by clear b1 b2 b3 b4 el l1 l2; omega] at l1
  have hJ := c_core el b1 b2 b3 b4 l1 l2 rfl rfl
  have ht := t_bd hJ.1 hin hJ.2.1 hJ.2.2.1 hJ.2.2.2
  exact ht

end Go.Proofs.Ytjpbimfnppmbcaa
