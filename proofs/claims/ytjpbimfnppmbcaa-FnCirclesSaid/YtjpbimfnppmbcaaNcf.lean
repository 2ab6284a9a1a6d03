/- Doubles between numbers of a fine lattice (2 to the -40). -/
import Derived.Test.YtjpbimfnppmbcaaFlv
namespace Go.Proofs.Ytjpbimfnppmbcaa
open Fl Go.RowKit Ieee

def fp : Nat := 1034
/-- 2 to the -40. -/
def Vf : Int := 2 ^ fp
theorem U_Vf : U double = 1099511627776 * Vf := by
  unfold U Vf
  rw [show (-double.leastPlace).toNat = fp + 40 by decide, Int.pow_add, Int.mul_comm]
  rfl
theorem Vf_pos : 0 < Vf := Int.pow_pos (by decide)
def fw (l : Int) : Nat := double.word (decide (l < 0)) (rg double l.natAbs (-40))
theorem fw_spec {l : Int} (h1 : -9007199254740992 ≤ l) (h2 : l ≤ 9007199254740992) : fin double (fw l) ∧ N double (fw l) = l * Vf := by
  have hq : l.natAbs ≤ 2 ^ 53 := by omega
  unfold fw
  generalize hn : l.natAbs = q at *
  have hlt := rg_lt double q (-40)
  have hb : rg0 double q (-40) ≤ rg0 double (2 ^ 53) (-40) := rg0_mono _ _ hq
  have hfin : rg0 double q (-40) < double.infRung := Nat.lt_of_le_of_lt hb (by decide +kernel)
  have hrg : rg double q (-40) = rg0 double q (-40) := by unfold rg; omega
  have hlt0 : rg0 double q (-40) < double.signWeight := Nat.lt_trans hfin double.infRung_lt
  have hnum : num double (rg0 double q (-40)) = q * 2 ^ fp := by
    rcases Nat.lt_or_ge q (2 ^ 53) with a | a
    · have := rg0_rep (f := double) (p := -40) a (by decide)
      rw [this, show (-40 - double.leastPlace).toNat = fp by decide]
    · have e : q = 2 ^ 52 * 2 ^ 1 := by omega
      have e1 := rg0_scale double (2 ^ 52) 1 (-39)
      have := rg0_rep (f := double) (m := 2 ^ 52) (p := -39) (by decide) (by decide)
      rw [e, show (-40 : Int) = -39 - ((1 : Nat) : Int) by decide, e1, this]
      have : (-39 - double.leastPlace).toNat = 1 + fp := by decide
      rw [this, Nat.pow_add, Nat.mul_assoc]
  rw [hrg]
  refine ⟨?_, ?_⟩
  · unfold fin; rw [rung_word _ _ hlt0]; exact hfin
  · rw [N_word _ _ hlt0, hnum]
    have hv : Vf = ((2 ^ fp : Nat) : Int) := by unfold Vf; simp
    rw [hv]
    rcases Int.lt_or_le l 0 with c | c
    · have e : l = -(q : Int) := by omega
      rw [e, if_pos (by simp; omega), Int.neg_mul]; simp
    · have e : l = (q : Int) := by omega
      rw [e, if_neg (by simp)]; simp
theorem fw_lt (l : Int) : fw l < 2 ^ 64 := word_lt64 _ (rg_lt _ _ _)

/-- A class that is a number between l and h steps of the lattice. -/
def Jn (c : Option Nat) (l h : Int) : Prop := ∃ z, c = some z ∧ z < 2 ^ 64 ∧ fin double z ∧ l * Vf ≤ N double z ∧ N double z ≤ h * Vf
/-- Small enough for the lattice. -/
def okf (l : Int) : Prop := -9007199254740992 ≤ l ∧ l ≤ 9007199254740992
theorem okf_of {l : Int} (h1 : -9007199254740992 ≤ l) (h2 : l ≤ 9007199254740992) : okf l := ⟨h1, h2⟩
theorem jn_mono {c : Option Nat} {l h l' h' : Int} (hi : Jn c l h) (h1 : l' ≤ l) (h2 : h ≤ h') : Jn c l' h' := by
  obtain ⟨z, e, hz, hf, a, b⟩ := hi
  have v := Vf_pos
  exact ⟨z, e, hz, hf, Int.le_trans (Int.mul_le_mul_of_nonneg_right h1 (by omega)) a, Int.le_trans b (Int.mul_le_mul_of_nonneg_right h2 (by omega))⟩
theorem jn_add {a b : Option Nat} {l1 h1 l2 h2 : Int} (ha : Jn a l1 h1) (hb : Jn b l2 h2) (ol : okf (l1 + l2)) (oh : okf (h1 + h2)) : Jn (cop .add .f64 a b) (l1 + l2) (h1 + h2) := by
  obtain ⟨x, rfl, _, hx, x1, x2⟩ := ha
  obtain ⟨y, rfl, _, hy, y1, y2⟩ := hb
  obtain ⟨cf, cn⟩ := fw_spec ol.1 ol.2
  obtain ⟨df, dn⟩ := fw_spec oh.1 oh.2
  obtain ⟨z, hz, hlt, hf, z1, z2⟩ := add_bd (f := double) (by decide) hx hy cf df (by rw [cn, Int.add_mul]; omega) (by rw [dn, Int.add_mul]; omega)
  exact ⟨z, hz, hlt, hf, by omega, by omega⟩
theorem jn_sub {a b : Option Nat} {l1 h1 l2 h2 : Int} (ha : Jn a l1 h1) (hb : Jn b l2 h2) (ol : okf (l1 - h2)) (oh : okf (h1 - l2)) : Jn (cop .sub .f64 a b) (l1 - h2) (h1 - l2) := by
  obtain ⟨x, rfl, _, hx, x1, x2⟩ := ha
  obtain ⟨y, rfl, _, hy, y1, y2⟩ := hb
  obtain ⟨cf, cn⟩ := fw_spec ol.1 ol.2
  obtain ⟨df, dn⟩ := fw_spec oh.1 oh.2
  obtain ⟨z, hz, hlt, hf, z1, z2⟩ := sub_bd (f := double) (by decide) hx hy cf df (by rw [cn, Int.sub_mul]; omega) (by rw [dn, Int.sub_mul]; omega)
  exact ⟨z, hz, hlt, hf, by omega, by omega⟩
theorem scf (c : Int) : c * Vf * U double = (c * 1099511627776) * (Vf * Vf) := by rw [U_Vf]; simp only [Int.mul_assoc, Int.mul_left_comm]
/-- A product with a number not below nought, the least and the greatest at the ends. -/
theorem jn_mul {a b : Option Nat} {l1 h1 l2 h2 c d : Int} (ha : Jn a l1 h1) (hb : Jn b l2 h2) (h0 : 0 ≤ l2)
    (hc1 : c * 1099511627776 ≤ l1 * l2) (hc2 : c * 1099511627776 ≤ l1 * h2) (hd1 : h1 * l2 ≤ d * 1099511627776) (hd2 : h1 * h2 ≤ d * 1099511627776) (oc : okf c) (od : okf d) :
    Jn (cop .mul .f64 a b) c d := by
  obtain ⟨x, rfl, _, hx, x1, x2⟩ := ha
  obtain ⟨y, rfl, _, hy, y1, y2⟩ := hb
  obtain ⟨cf, cn⟩ := fw_spec oc.1 oc.2
  obtain ⟨df, dn⟩ := fw_spec od.1 od.2
  have v := Vf_pos
  have vv : 0 < Vf * Vf := Int.mul_pos v v
  have hy0 : 0 ≤ N double y := Int.le_trans (Int.mul_nonneg h0 (Int.le_of_lt v)) y1
  have m1 : l1 * Vf * N double y ≤ N double x * N double y := Int.mul_le_mul_of_nonneg_right x1 hy0
  have m2 : N double x * N double y ≤ h1 * Vf * N double y := Int.mul_le_mul_of_nonneg_right x2 hy0
  have lo : (c * 1099511627776) * (Vf * Vf) ≤ l1 * Vf * N double y := by
    rcases Int.le_total 0 l1 with s | s
    · have k : l1 * Vf * (l2 * Vf) ≤ l1 * Vf * N double y := Int.mul_le_mul_of_nonneg_left y1 (Int.mul_nonneg s (Int.le_of_lt v))
      rw [mmm] at k
      have := Int.mul_le_mul_of_nonneg_right hc1 (Int.le_of_lt vv)
      omega
    · have k : -l1 * Vf * N double y ≤ -l1 * Vf * (h2 * Vf) := Int.mul_le_mul_of_nonneg_left y2 (Int.mul_nonneg (by omega) (Int.le_of_lt v))
      rw [mmm, Int.neg_mul, Int.neg_mul, Int.neg_mul, Int.neg_mul] at k
      have := Int.mul_le_mul_of_nonneg_right hc2 (Int.le_of_lt vv)
      omega
  have hi : h1 * Vf * N double y ≤ (d * 1099511627776) * (Vf * Vf) := by
    rcases Int.le_total 0 h1 with s | s
    · have k : h1 * Vf * N double y ≤ h1 * Vf * (h2 * Vf) := Int.mul_le_mul_of_nonneg_left y2 (Int.mul_nonneg s (Int.le_of_lt v))
      rw [mmm] at k
      have := Int.mul_le_mul_of_nonneg_right hd2 (Int.le_of_lt vv)
      omega
    · have k : -h1 * Vf * (l2 * Vf) ≤ -h1 * Vf * N double y := Int.mul_le_mul_of_nonneg_left y1 (Int.mul_nonneg (by omega) (Int.le_of_lt v))
      rw [mmm, Int.neg_mul, Int.neg_mul, Int.neg_mul, Int.neg_mul] at k
      have := Int.mul_le_mul_of_nonneg_right hd1 (Int.le_of_lt vv)
      omega
  obtain ⟨z, hz, hlt, hf, z1, z2⟩ := mul_bd (f := double) (by decide) (by decide) hx hy cf df (by rw [cn, scf]; omega) (by rw [dn, scf]; omega)
  exact ⟨z, hz, hlt, hf, by omega, by omega⟩
theorem jn_pos {a b : Option Nat} {l1 h1 l2 h2 c d : Int} (ha : Jn a l1 h1) (hb : Jn b l2 h2) (k0 : 0 ≤ l1) (h0 : 0 ≤ l2) (k1 : l1 ≤ h1) (k2 : l2 ≤ h2)
    (hc : c * 1099511627776 ≤ l1 * l2) (hd : h1 * h2 ≤ d * 1099511627776) (oc : okf c) (od : okf d) : Jn (cop .mul .f64 a b) c d :=
  jn_mul ha hb h0 hc (Int.le_trans hc (Int.mul_le_mul_of_nonneg_left k2 k0)) (Int.le_trans (Int.mul_le_mul_of_nonneg_left k2 (by omega)) hd) hd oc od
/-- The opposite. -/
theorem jn_neg {b : Nat} {l h : Int} (hi : Jn (some b) l h) : Jn (some (Go.Op.negFloat .f64 b)) (-h) (-l) := by
  obtain ⟨z, e, hz, hf, a, c⟩ := hi
  cases e
  obtain ⟨f1, f2⟩ := neg_spec hz hf
  exact ⟨_, rfl, by have en : Go.Op.negFloat .f64 b = b ^^^ 2 ^ 63 := rfl; rw [en]; exact Nat.xor_lt_two_pow hz (by decide), f1, by rw [f2, Int.neg_mul]; omega, by rw [f2, Int.neg_mul]; omega⟩
/-- A quotient. -/
theorem jn_quo {a b : Option Nat} {l1 h1 m n c d : Int} (ha : Jn a l1 h1) (hb : Jn b m n) (hm : 0 < m) (hc1 : c * m ≤ l1 * 1099511627776) (hc2 : c * n ≤ l1 * 1099511627776) (hd1 : h1 * 1099511627776 ≤ d * m) (hd2 : h1 * 1099511627776 ≤ d * n) (oc : okf c) (od : okf d) :
    Jn (cop .quo .f64 a b) c d := by
  obtain ⟨x, rfl, _, hx, x1, x2⟩ := ha
  obtain ⟨y, rfl, _, hy, y1, y2⟩ := hb
  obtain ⟨cf, cn⟩ := fw_spec oc.1 oc.2
  obtain ⟨df, dn⟩ := fw_spec od.1 od.2
  have v := Vf_pos
  have vv := Int.mul_pos v v
  have hy0 : 0 < N double y := Int.lt_of_lt_of_le (Int.mul_pos hm v) y1
  have u := U_pos double
  have k5 : N double x * U double ≤ h1 * Vf * U double := Int.mul_le_mul_of_nonneg_right x2 (by omega)
  have k6 : l1 * Vf * U double ≤ N double x * U double := Int.mul_le_mul_of_nonneg_right x1 (by omega)
  rw [scf] at k5 k6
  have lo : c * Vf * N double y ≤ (l1 * 1099511627776) * (Vf * Vf) := by
    rcases Int.le_total 0 c with s | s
    · have k : c * Vf * N double y ≤ c * Vf * (n * Vf) := Int.mul_le_mul_of_nonneg_left y2 (Int.mul_nonneg s (Int.le_of_lt v))
      rw [mmm] at k
      have := Int.mul_le_mul_of_nonneg_right hc2 (Int.le_of_lt vv)
      omega
    · have k : -c * Vf * (m * Vf) ≤ -c * Vf * N double y := Int.mul_le_mul_of_nonneg_left y1 (Int.mul_nonneg (by omega) (Int.le_of_lt v))
      rw [mmm, Int.neg_mul, Int.neg_mul, Int.neg_mul, Int.neg_mul] at k
      have := Int.mul_le_mul_of_nonneg_right hc1 (Int.le_of_lt vv)
      omega
  have hi : (h1 * 1099511627776) * (Vf * Vf) ≤ d * Vf * N double y := by
    rcases Int.le_total 0 d with s | s
    · have k : d * Vf * (m * Vf) ≤ d * Vf * N double y := Int.mul_le_mul_of_nonneg_left y1 (Int.mul_nonneg s (Int.le_of_lt v))
      rw [mmm] at k
      have := Int.mul_le_mul_of_nonneg_right hd1 (Int.le_of_lt vv)
      omega
    · have k : -d * Vf * N double y ≤ -d * Vf * (n * Vf) := Int.mul_le_mul_of_nonneg_left y2 (Int.mul_nonneg (by omega) (Int.le_of_lt v))
      rw [mmm, Int.neg_mul, Int.neg_mul, Int.neg_mul, Int.neg_mul] at k
      have := Int.mul_le_mul_of_nonneg_right hd2 (Int.le_of_lt vv)
      omega
  obtain ⟨z, hz, hlt, hf, z1, z2, _⟩ := div_bd (f := double) (by decide) (by decide) hx hy cf df hy0 (by rw [cn]; omega) (by rw [dn]; omega)
  exact ⟨z, hz, hlt, hf, by omega, by omega⟩
theorem opw_jn {op : BinOp} {x y : Nat} {l h : Int} (hi : Jn (cop op .f64 (some x) (some y)) l h) : Jn (some (opw op x y)) l h := by
  have e : cop op .f64 (some x) (some y) = floatBits op .f64 x y := rfl
  rw [e] at hi
  obtain ⟨z, hz, r⟩ := hi
  rw [opw_some hz]; exact ⟨z, rfl, r⟩
def jcB (b : Nat) (l h : Int) : Bool := decide (b < 18446744073709551616) && finb double b && decide (l * Vf ≤ N double b) && decide (N double b ≤ h * Vf)
/-- A constant: by the kernel. -/
theorem jn_const {b : Nat} {l h : Int} (k : jcB b l h = true) : Jn (some b) l h := by
  simp only [jcB, Bool.and_eq_true, decide_eq_true_eq] at k
  exact ⟨b, rfl, k.1.1.1, finb_iff.1 k.1.1.2, k.1.2, k.2⟩

/-- The floor of a number between two of the lattice. -/
theorem tI_floor {l : Nat} (h : In (some l) (-1540) 1542) : tI l = flI (tB l) := by
  have hb := (tB_in h).2
  have hf := in_floor hb (by unfold ok; omega) (by unfold ok; omega)
  obtain ⟨f1, f2⟩ := flI_spec (tB l)
  have u := U_pos double
  have v := V_pos
  have uv := U_V
  have b1 : -20000 ≤ flI (tB l) := by
    have := hb.lo
    rcases Int.lt_or_le (flI (tB l)) (-20000) with q | q
    · have k : (flI (tB l) + 1) * U double ≤ -20000 * U double := Int.mul_le_mul_of_nonneg_right (by omega) (by omega)
      omega
    · exact q
  have b2 : flI (tB l) ≤ 20000 := by
    have := hb.hi
    rcases Int.lt_or_le 20000 (flI (tB l)) with q | q
    · have k : 20001 * U double ≤ flI (tB l) * U double := Int.mul_le_mul_of_nonneg_right (by omega) (by omega)
      omega
    · exact q
  obtain ⟨cf, cn⟩ := qw_spec (l := 4 * flI (tB l)) (by omega) (by omega)
  have en : 4 * flI (tB l) * V = flI (tB l) * U double := by rw [U_V, Int.mul_comm 4, Int.mul_assoc]
  have hn := flo_bd hb.fin cf cf (by rw [cn, en]; exact Int.le_refl _) (by rw [cn, en]; exact Int.le_refl _)
  have hN : N double (flo (tB l)) = flI (tB l) * U double := by rw [← en, ← cn]; omega
  have htq : tq double (flo (tB l)) = (flI (tB l)).natAbs := by
    unfold tq
    rw [hN, Int.natAbs_mul, U_nat, Int.natAbs_natCast]
    exact Nat.mul_div_cancel _ (Nat.two_pow_pos _)
  unfold tI
  rw [htq]
  by_cases h0 : flI (tB l) = 0
  · rw [h0]; cases ng double (flo (tB l)) <;> rfl
  · have hng := ng_of_N (f := double) (x := flo (tB l)) (by rw [hN]; intro q; rcases Int.mul_eq_zero.1 q with q | q <;> omega)
    rw [hng, hN]
    rcases Int.lt_or_le (flI (tB l)) 0 with s | s
    · rw [decide_eq_true (Int.mul_neg_of_neg_of_pos s u), if_pos rfl]; omega
    · rw [decide_eq_false (by have := Int.mul_nonneg s (Int.le_of_lt u); omega), if_neg (by simp)]; omega
theorem flI_lo {x : Nat} {l h a : Int} (hx : Jn (some x) l h) (ha : a * 1099511627776 ≤ l) : a ≤ flI x := by
  obtain ⟨z, e, _, _, z1, _⟩ := hx
  cases e
  obtain ⟨_, f2⟩ := flI_spec x
  have v := Vf_pos
  rw [U_Vf] at f2
  rcases Int.lt_or_le (flI x) a with q | q
  · have k : (flI x + 1) * (1099511627776 * Vf) ≤ a * (1099511627776 * Vf) := Int.mul_le_mul_of_nonneg_right (by omega) (by omega)
    have k2 : a * 1099511627776 * Vf ≤ l * Vf := Int.mul_le_mul_of_nonneg_right ha (by omega)
    rw [Int.mul_assoc] at k2
    omega
  · exact q
theorem flI_hi {x : Nat} {l h a : Int} (hx : Jn (some x) l h) (ha : h < (a + 1) * 1099511627776) : flI x ≤ a := by
  obtain ⟨z, e, _, _, _, z2⟩ := hx
  cases e
  obtain ⟨f1, _⟩ := flI_spec x
  have v := Vf_pos
  rw [U_Vf] at f1
  rcases Int.lt_or_le a (flI x) with q | q
  · have k : (a + 1) * (1099511627776 * Vf) ≤ flI x * (1099511627776 * Vf) := Int.mul_le_mul_of_nonneg_right (by omega) (by omega)
    have k2 : (h + 1) * Vf ≤ (a + 1) * 1099511627776 * Vf := Int.mul_le_mul_of_nonneg_right (by omega) (by omega)
    rw [Int.mul_assoc (a + 1), Int.add_mul, Int.one_mul] at k2
    omega
  · exact q

end Go.Proofs.Ytjpbimfnppmbcaa
