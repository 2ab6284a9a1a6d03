/- Rounding, and the operations on finite numbers of a binary format: what lies between two numbers of the format is rounded to a number between them. -/
import Derived.Laws.FloatArith
namespace Go.Proofs.Ytjpbimfnppmbcaa.Fl
open Ieee

/-- Half to even. -/
def rd (n d : Nat) : Nat := n / 2 ^ d + (if 2 ^ d < 2 * (n % 2 ^ d) ∨ (2 ^ d = 2 * (n % 2 ^ d) ∧ n / 2 ^ d % 2 = 1) then 1 else 0)

theorem rd_zero (n : Nat) : rd n 0 = n := by simp [rd, Nat.mod_one]

theorem shl_one (k : Nat) : 1 <<< k = 2 ^ k := by simp [Nat.shiftLeft_eq]

theorem cut_even (neg : Bool) (n drop : Nat) : Toward.even.cut neg n drop = rd n drop := by
  have key : ∀ d, Toward.even.cut neg n d = (let gap := 1 <<< min d (n.log2 + 2); n / gap + (gap < 2 * (n % gap) || (gap == 2 * (n % gap) && n / gap % 2 == 1)).toNat) := fun d => rfl
  rw [key]
  simp only [shl_one]
  rcases Nat.le_total drop (n.log2 + 2) with h | h
  · rw [Nat.min_eq_left h]
    unfold rd
    congr 1
    by_cases c : 2 ^ drop < 2 * (n % 2 ^ drop) ∨ (2 ^ drop = 2 * (n % 2 ^ drop) ∧ n / 2 ^ drop % 2 = 1)
    · rw [if_pos c]
      have : (decide (2 ^ drop < 2 * (n % 2 ^ drop)) || (2 ^ drop == 2 * (n % 2 ^ drop) && n / 2 ^ drop % 2 == 1)) = true := by
        simpa using c
      rw [this]; rfl
    · rw [if_neg c]
      have : (decide (2 ^ drop < 2 * (n % 2 ^ drop)) || (2 ^ drop == 2 * (n % 2 ^ drop) && n / 2 ^ drop % 2 == 1)) = false := by
        rw [Bool.eq_false_iff]; intro hc; exact c (by simpa using hc)
      rw [this]; rfl
  · rw [Nat.min_eq_right h]
    have hn : n < 2 ^ (n.log2 + 1) := Nat.lt_log2_self
    have h1 : 2 ^ (n.log2 + 2) = 2 * 2 ^ (n.log2 + 1) := by rw [Nat.pow_succ 2 (n.log2 + 1), Nat.mul_comm]
    have h2 : 2 ^ (n.log2 + 2) ≤ 2 ^ drop := Nat.pow_le_pow_right (by omega) h
    unfold rd
    have q1 : n / 2 ^ (n.log2 + 2) = 0 := Nat.div_eq_of_lt (by omega)
    have q2 : n / 2 ^ drop = 0 := Nat.div_eq_of_lt (by omega)
    have q3 : n % 2 ^ (n.log2 + 2) = n := Nat.mod_eq_of_lt (by omega)
    have q4 : n % 2 ^ drop = n := Nat.mod_eq_of_lt (by omega)
    rw [q1, q2, q3, q4, if_neg (by omega)]
    have : (decide (2 ^ (n.log2 + 2) < 2 * n) || (2 ^ (n.log2 + 2) == 2 * n && 0 % 2 == 1)) = false := by
      simp; omega
    rw [this]; rfl

/-- What tells 'rd'. -/
theorem rd_spec (n d : Nat) : 2 * n ≤ 2 * (rd n d * 2 ^ d) + 2 ^ d ∧ 2 * (rd n d * 2 ^ d) ≤ 2 * n + 2 ^ d := by
  have hp : 0 < 2 ^ d := Nat.two_pow_pos d
  have hdm := Nat.div_add_mod n (2 ^ d)
  have hlt := Nat.mod_lt n hp
  rw [Nat.mul_comm] at hdm
  unfold rd
  split
  · rename_i h
    rw [Nat.add_mul, Nat.one_mul]
    omega
  · rename_i h
    rw [Nat.add_zero]
    omega

theorem rd_mono {n n' : Nat} (d : Nat) (h : n ≤ n') : rd n d ≤ rd n' d := by
  rcases Nat.lt_or_ge (rd n' d) (rd n d) with hlt | hge
  · exfalso
    have hp : 0 < 2 ^ d := Nat.two_pow_pos d
    have a := rd_spec n d
    have b := rd_spec n' d
    have c : (rd n' d + 1) * 2 ^ d ≤ rd n d * 2 ^ d := Nat.mul_le_mul_right _ hlt
    rw [Nat.add_mul, Nat.one_mul] at c
    have : n = n' := by omega
    subst this
    omega
  · exact hge

theorem rd_scale (n d k : Nat) : rd (n * 2 ^ k) (d + k) = rd n d := by
  have hp : 0 < 2 ^ k := Nat.two_pow_pos k
  have h1 : n * 2 ^ k / 2 ^ (d + k) = n / 2 ^ d := by
    rw [Nat.pow_add, Nat.mul_div_mul_right _ _ hp]
  have h2 : n * 2 ^ k % 2 ^ (d + k) = n % 2 ^ d * 2 ^ k := by
    rw [Nat.pow_add, Nat.mul_mod_mul_right]
  unfold rd
  rw [h1, h2, Nat.pow_add]
  have e1 : (2 ^ d * 2 ^ k < 2 * (n % 2 ^ d * 2 ^ k)) ↔ (2 ^ d < 2 * (n % 2 ^ d)) := by
    rw [← Nat.mul_assoc]; exact ⟨fun h => Nat.lt_of_mul_lt_mul_right h, fun h => Nat.mul_lt_mul_of_pos_right h hp⟩
  have e2 : (2 ^ d * 2 ^ k = 2 * (n % 2 ^ d * 2 ^ k)) ↔ (2 ^ d = 2 * (n % 2 ^ d)) := by
    rw [← Nat.mul_assoc]; exact ⟨fun h => Nat.eq_of_mul_eq_mul_right hp h, fun h => congrArg (· * 2 ^ k) h⟩
  simp only [e1, e2]

theorem rd_exact (n k : Nat) : rd (n * 2 ^ k) k = n := by
  have := rd_scale n 0 k
  rwa [Nat.zero_add, rd_zero] at this

/-- 'rd' of a number with d digits more than are kept stays within its binade. -/
theorem rd_ge {n d k : Nat} (h : 2 ^ (d + k) ≤ n) : 2 ^ k ≤ rd n d := by
  have a := rd_mono d h
  rw [Nat.add_comm, Nat.pow_add, rd_exact] at a
  exact a
theorem rd_le {n d k : Nat} (h : n ≤ 2 ^ (d + k)) : rd n d ≤ 2 ^ k := by
  have a := rd_mono d h
  rw [Nat.add_comm d k, Nat.pow_add, rd_exact] at a
  exact a

/-- The rung of a magnitude, before infinity cuts it. -/
def rg0 (f : Format) (mag : Nat) (place : Int) : Nat :=
  if mag = 0 then 0 else
  let last := max (place + mag.log2 - f.fractionBits) f.leastPlace
  (last - f.leastPlace).toNat * f.binade + rd (mag * 2 ^ (place - last).toNat) (last - place).toNat

def rg (f : Format) (mag : Nat) (place : Int) : Nat := min (rg0 f mag place) f.infRung

theorem nearest_eq (f : Format) (neg : Bool) (mag : Nat) (place : Int) : f.nearest neg mag place = f.word neg (rg f mag place) := by
  unfold Format.nearest rg rg0
  by_cases h : mag = 0
  · rw [if_pos h, if_pos h, Nat.zero_min]
  · rw [if_neg h, if_neg h]
    simp only [cut_even, Nat.shiftLeft_eq]

theorem log2_mul_pow (m k : Nat) (h : m ≠ 0) : (m * 2 ^ k).log2 = m.log2 + k := by
  have hp : 0 < 2 ^ k := Nat.two_pow_pos k
  have h0 : m * 2 ^ k ≠ 0 := Nat.mul_ne_zero h (by omega)
  have a := Nat.log2_self_le h
  have b := @Nat.lt_log2_self m
  have c : m.log2 + k ≤ (m * 2 ^ k).log2 := (Nat.le_log2 h0).2 (by rw [Nat.pow_add]; exact Nat.mul_le_mul_right _ a)
  have d : (m * 2 ^ k).log2 < m.log2 + 1 + k := (Nat.log2_lt h0).2 (by rw [Nat.pow_add]; exact Nat.mul_lt_mul_of_pos_right b hp)
  omega

/-- The rung goes by the value alone. -/
theorem rg0_scale (f : Format) (m k : Nat) (p : Int) : rg0 f (m * 2 ^ k) (p - k) = rg0 f m p := by
  unfold rg0
  by_cases h : m = 0
  · subst h; simp
  · have h0 : m * 2 ^ k ≠ 0 := Nat.mul_ne_zero h (by have := Nat.two_pow_pos k; omega)
    rw [if_neg h0, if_neg h, log2_mul_pow m k h]
    have e : (p - k + ((m.log2 + k : Nat) : Int) - f.fractionBits) = (p + m.log2 - f.fractionBits) := by omega
    rw [e]
    simp only
    generalize max (p + m.log2 - f.fractionBits) f.leastPlace = last
    congr 1
    rcases Int.le_total p last with hl | hl
    · have e1 : (p - k - last).toNat = 0 := by omega
      have e2 : (p - last).toNat = 0 := by omega
      have e3 : (last - (p - k)).toNat = (last - p).toNat + k := by omega
      rw [e1, e2, e3, Nat.pow_zero, Nat.mul_one, Nat.mul_one, rd_scale]
    · have e2 : (last - p).toNat = 0 := by omega
      rw [e2, rd_zero]
      rcases Int.le_total (p - k) last with hk | hk
      · have e1 : (p - k - last).toNat = 0 := by omega
        rw [e1, Nat.pow_zero, Nat.mul_one]
        have e4 : k = (p - last).toNat + (last - (p - k)).toNat := by omega
        have e5 : m * 2 ^ k = (m * 2 ^ (p - last).toNat) * 2 ^ (last - (p - k)).toNat := by
          rw [Nat.mul_assoc, ← Nat.pow_add, ← e4]
        rw [e5, rd_exact]
      · have e1 : (last - (p - k)).toNat = 0 := by omega
        rw [e1, rd_zero, Nat.mul_assoc, ← Nat.pow_add]
        congr 2
        omega

theorem rg0_mono (f : Format) {m n : Nat} (p : Int) (h : m ≤ n) : rg0 f m p ≤ rg0 f n p := by
  unfold rg0
  by_cases hm : m = 0
  · rw [if_pos hm]; exact Nat.zero_le _
  · have hn : n ≠ 0 := by omega
    rw [if_neg hm, if_neg hn]
    have hlog : m.log2 ≤ n.log2 := (Nat.le_log2 hn).2 (Nat.le_trans (Nat.log2_self_le hm) h)
    have m1 := Nat.log2_self_le hm
    have m2 := @Nat.lt_log2_self m
    have n1 := Nat.log2_self_le hn
    have n2 := @Nat.lt_log2_self n
    generalize hu : f.leastPlace = u
    generalize hl : max (p + m.log2 - f.fractionBits) u = last
    generalize hl' : max (p + n.log2 - f.fractionBits) u = last'
    simp only
    rcases Int.lt_or_le last last' with hlt | hge
    · -- another binade
      have e1 : last' = p + n.log2 - f.fractionBits := by omega
      have hb : f.binade = 2 ^ f.fractionBits := rfl
      have k1 : rd (m * 2 ^ (p - last).toNat) (last - p).toNat ≤ 2 ^ (f.fractionBits + 1) := by
        refine rd_le ?_
        have : m * 2 ^ (p - last).toNat ≤ 2 ^ (m.log2 + 1) * 2 ^ (p - last).toNat := Nat.mul_le_mul_right _ (by omega)
        rw [← Nat.pow_add] at this
        exact Nat.le_trans this (Nat.pow_le_pow_right (by omega) (by omega))
      have k2 : 2 ^ f.fractionBits ≤ rd (n * 2 ^ (p - last').toNat) (last' - p).toNat := by
        refine rd_ge ?_
        have : 2 ^ n.log2 * 2 ^ (p - last').toNat ≤ n * 2 ^ (p - last').toNat := Nat.mul_le_mul_right _ n1
        rw [← Nat.pow_add] at this
        exact Nat.le_trans (Nat.pow_le_pow_right (by omega) (by omega)) this
      rw [Nat.pow_succ] at k1
      rw [hb]
      generalize rd (m * 2 ^ (p - last).toNat) (last - p).toNat = a at *
      generalize rd (n * 2 ^ (p - last').toNat) (last' - p).toNat = b at *
      generalize hB : 2 ^ f.fractionBits = B at *
      have c1 : ((last - u).toNat + 1) * B ≤ (last' - u).toNat * B := Nat.mul_le_mul_right _ (by omega)
      rw [Nat.add_mul, Nat.one_mul] at c1
      omega
    · have e : last = last' := by omega
      rw [e]
      exact Nat.add_le_add_left (rd_mono _ (Nat.mul_le_mul_right _ h)) _

/-- 'm * 2 ^ p ≤ n * 2 ^ q'. -/
def vle (m : Nat) (p : Int) (n : Nat) (q : Int) : Prop := m * 2 ^ (p - min p q).toNat ≤ n * 2 ^ (q - min p q).toNat

theorem rg0_vle (f : Format) {m n : Nat} {p q : Int} (h : vle m p n q) : rg0 f m p ≤ rg0 f n q := by
  unfold vle at h
  have a := rg0_mono f (min p q) h
  have e1 := rg0_scale f m (p - min p q).toNat p
  have e2 := rg0_scale f n (q - min p q).toNat q
  rw [show p - ((p - min p q).toNat : Int) = min p q by omega] at e1
  rw [show q - ((q - min p q).toNat : Int) = min p q by omega] at e2
  rw [e1, e2] at a
  exact a

theorem vle_total (m : Nat) (p : Int) (n : Nat) (q : Int) : vle m p n q ∨ vle n q m p := by
  unfold vle
  rw [Int.min_comm q p]
  exact Nat.le_total _ _

/-- What a rung stands for. -/
def mg (f : Format) (r : Nat) : Nat := if r < f.binade then r else f.binade + r % f.binade
def pl (f : Format) (r : Nat) : Int := if r < f.binade then f.leastPlace else f.leastPlace + (r / f.binade - 1 : Nat)

theorem binade_pos (f : Format) : 0 < f.binade := Nat.two_pow_pos _

theorem log2_small {r k : Nat} (h : r < 2 ^ k) (h0 : r ≠ 0) : r.log2 < k := (Nat.log2_lt h0).2 h

theorem rg0_self (f : Format) (r : Nat) : rg0 f (mg f r) (pl f r) = r := by
  have hB := binade_pos f
  have hb : f.binade = 2 ^ f.fractionBits := rfl
  unfold rg0 mg pl
  by_cases h : r < f.binade
  · rw [if_pos h, if_pos h]
    by_cases h0 : r = 0
    · rw [if_pos h0, h0]
    · rw [if_neg h0]
      have := log2_small (hb ▸ h) h0
      have e : max (f.leastPlace + r.log2 - f.fractionBits) f.leastPlace = f.leastPlace := by omega
      rw [e]
      simp only
      rw [show (f.leastPlace - f.leastPlace).toNat = 0 by omega, rd_zero]
      omega
  · rw [if_neg h, if_neg h]
    have h0 : f.binade + r % f.binade ≠ 0 := by omega
    rw [if_neg h0]
    have hlt := Nat.mod_lt r hB
    have hlog : (f.binade + r % f.binade).log2 = f.fractionBits := by
      have a : f.fractionBits ≤ (f.binade + r % f.binade).log2 := (Nat.le_log2 h0).2 (by omega)
      have b : (f.binade + r % f.binade).log2 < f.fractionBits + 1 := (Nat.log2_lt h0).2 (by rw [Nat.pow_succ]; omega)
      omega
    rw [hlog]
    have e : max (f.leastPlace + ((r / f.binade - 1 : Nat) : Int) + f.fractionBits - f.fractionBits) f.leastPlace = f.leastPlace + ((r / f.binade - 1 : Nat) : Int) := by omega
    rw [e]
    simp only
    rw [show (f.leastPlace + ((r / f.binade - 1 : Nat) : Int) - (f.leastPlace + ((r / f.binade - 1 : Nat) : Int))).toNat = 0 by omega, rd_zero]
    rw [show (f.leastPlace + ((r / f.binade - 1 : Nat) : Int) - f.leastPlace).toNat = r / f.binade - 1 by omega]
    have d := Nat.div_add_mod r f.binade
    have d1 : 1 ≤ r / f.binade := (Nat.le_div_iff_mul_le hB).2 (by omega)
    have e2 : (r / f.binade - 1) * f.binade = r / f.binade * f.binade - f.binade := by rw [Nat.sub_mul, Nat.one_mul]
    have e3 : f.binade ≤ r / f.binade * f.binade := Nat.le_mul_of_pos_left _ d1
    rw [Nat.mul_comm] at d
    omega

theorem rung_le_of_vle (f : Format) {r t : Nat} (h : vle (mg f r) (pl f r) (mg f t) (pl f t)) : r ≤ t := by
  have := rg0_vle f h
  rwa [rg0_self, rg0_self] at this

theorem vle_of_rung_le (f : Format) {r t : Nat} (h : r ≤ t) : vle (mg f r) (pl f r) (mg f t) (pl f t) := by
  rcases vle_total (mg f r) (pl f r) (mg f t) (pl f t) with a | a
  · exact a
  · have b := rung_le_of_vle f a
    have : r = t := by omega
    subst this
    unfold vle; exact Nat.le_refl _

theorem order_eq {x y : Int} : compare x y = if x < y then .lt else if x = y then .eq else .gt := rfl

/-- A word's rung and sign. -/
def rung (f : Format) (x : Nat) : Nat := x % f.signWeight
def ng (f : Format) (x : Nat) : Bool := x / f.signWeight % 2 == 1
def nan (f : Format) (x : Nat) : Bool := decide (f.infRung < rung f x)
def fin (f : Format) (x : Nat) : Prop := rung f x < f.infRung

theorem binade_le (f : Format) (h : 0 < f.exponentBits) : f.binade ≤ f.infRung := by
  unfold Format.infRung
  have : 2 ^ 1 ≤ 2 ^ f.exponentBits := Nat.pow_le_pow_right (by omega) h
  exact Nat.le_mul_of_pos_left _ (by omega)

theorem exp_pos (k : Go.FloatKind) : 0 < k.format.exponentBits := by cases k <;> decide

theorem read_fin {f : Format} (he : 0 < f.exponentBits) {x : Nat} (h : fin f x) : f.read x = .number (ng f x) (mg f (rung f x)) (pl f (rung f x)) := by
  have := binade_le f he
  unfold fin rung at h
  unfold Format.read mg pl ng rung
  by_cases hb : x % f.signWeight < f.binade
  · simp only [hb, if_true]
  · simp only [hb, if_false, h, if_true]

theorem read_nan {f : Format} (he : 0 < f.exponentBits) {x : Nat} (h : nan f x = true) : ∃ t, f.read x = .nan (ng f x) t := by
  have := binade_le f he
  unfold nan rung at h
  rw [decide_eq_true_eq] at h
  refine ⟨x % f.signWeight - f.infRung, ?_⟩
  unfold Format.read ng
  have h1 : ¬ x % f.signWeight < f.binade := by omega
  have h2 : ¬ x % f.signWeight < f.infRung := by omega
  have h3 : ¬ x % f.signWeight = f.infRung := by omega
  simp only [h1, h2, h3, if_false]

theorem read_inf {f : Format} (he : 0 < f.exponentBits) {x : Nat} (h : rung f x = f.infRung) : f.read x = .infinity (ng f x) := by
  have := binade_le f he
  unfold rung at h
  unfold Format.read ng
  have h1 : ¬ x % f.signWeight < f.binade := by omega
  have h2 : ¬ x % f.signWeight < f.infRung := by omega
  simp only
  rw [if_neg h1, if_neg h2, if_pos h]

theorem kinds (f : Format) (x : Nat) : fin f x ∨ rung f x = f.infRung ∨ nan f x = true := by
  unfold fin nan
  rw [decide_eq_true_eq]
  omega

theorem rung_word (f : Format) (s : Bool) {r : Nat} (h : r < f.signWeight) : rung f (f.word s r) = r := by
  unfold rung Format.word
  cases s
  · simpa using Nat.mod_eq_of_lt h
  · simp only [if_true]; rw [Nat.add_mod_left, Nat.mod_eq_of_lt h]

theorem ng_word (f : Format) (s : Bool) {r : Nat} (h : r < f.signWeight) : ng f (f.word s r) = s := by
  have hp : 0 < f.signWeight := Nat.two_pow_pos _
  unfold ng Format.word
  cases s
  · simp [Nat.div_eq_of_lt h]
  · simp only [if_true]
    rw [Nat.add_div_left _ hp, Nat.div_eq_of_lt h]
    rfl

theorem rg_lt (f : Format) (m : Nat) (p : Int) : rg f m p < f.signWeight :=
  Nat.lt_of_le_of_lt (Nat.min_le_right _ _) f.infRung_lt

/-- The magnitude in units of the least place. -/
def num (f : Format) (r : Nat) : Nat := mg f r * 2 ^ (pl f r - f.leastPlace).toNat

theorem pl_ge (f : Format) (r : Nat) : f.leastPlace ≤ pl f r := by unfold pl; split <;> omega

theorem rg0_num (f : Format) (r : Nat) : rg0 f (num f r) f.leastPlace = r := by
  have := pl_ge f r
  have e := rg0_scale f (mg f r) (pl f r - f.leastPlace).toNat (pl f r)
  rw [show pl f r - ((pl f r - f.leastPlace).toNat : Int) = f.leastPlace by omega, rg0_self] at e
  exact e

theorem num_mono {f : Format} {r t : Nat} : num f r ≤ num f t ↔ r ≤ t := by
  constructor
  · intro h
    have := rg0_mono f f.leastPlace h
    rwa [rg0_num, rg0_num] at this
  · intro h
    rcases Nat.le_total (num f r) (num f t) with a | a
    · exact a
    · have := rg0_mono f f.leastPlace a
      rw [rg0_num, rg0_num] at this
      have : r = t := by omega
      subst this; exact Nat.le_refl _

theorem num_zero (f : Format) : num f 0 = 0 := by
  unfold num mg
  rw [if_pos (binade_pos f), Nat.zero_mul]

theorem num_eq_zero {f : Format} {r : Nat} : num f r = 0 ↔ r = 0 := by
  constructor
  · intro h
    have : num f r ≤ num f 0 := by rw [num_zero]; omega
    have := num_mono.1 this
    omega
  · rintro rfl; exact num_zero f

/-- The value, in units of the least place. -/
def N (f : Format) (x : Nat) : Int := if ng f x then -(num f (rung f x) : Int) else num f (rung f x)

theorem signed_scale (s : Bool) (m a b : Nat) : signed s m (a + b) = signed s m a * 2 ^ b := by
  unfold signed
  cases s
  · simp [Nat.shiftLeft_eq, Nat.pow_add, Int.mul_assoc]
  · simp [Nat.shiftLeft_eq, Nat.pow_add, Int.mul_assoc, Int.neg_mul]

theorem signed_N {f : Format} (x : Nat) : signed (ng f x) (mg f (rung f x)) (pl f (rung f x) - f.leastPlace).toNat = N f x := by
  unfold signed N num
  simp only [Nat.shiftLeft_eq]

theorem compare_mul (a b : Int) (k : Nat) : compare (a * 2 ^ k) (b * 2 ^ k) = compare a b := by
  have hk : (0 : Int) < 2 ^ k := Int.pow_pos (by decide)
  rw [order_eq, order_eq]
  have e1 : a * 2 ^ k < b * 2 ^ k ↔ a < b := ⟨fun h => Int.lt_of_mul_lt_mul_right h (by omega), fun h => Int.mul_lt_mul_of_pos_right h hk⟩
  have e2 : a * 2 ^ k = b * 2 ^ k ↔ a = b := ⟨fun h => Int.eq_of_mul_eq_mul_right (by omega) h, fun h => by rw [h]⟩
  simp only [e1, e2]

theorem order_fin {f : Format} (he : 0 < f.exponentBits) {x y : Nat} (hx : fin f x) (hy : fin f y) : f.order x y = some (compare (N f x) (N f y)) := by
  unfold Format.order
  rw [read_fin he hx, read_fin he hy]
  simp only [Datum.order]
  have px := pl_ge f (rung f x)
  have py := pl_ge f (rung f y)
  rw [← signed_N x, ← signed_N y]
  generalize hb : min (pl f (rung f x)) (pl f (rung f y)) = b
  have e1 : (pl f (rung f x) - f.leastPlace).toNat = (pl f (rung f x) - b).toNat + (b - f.leastPlace).toNat := by omega
  have e2 : (pl f (rung f y) - f.leastPlace).toNat = (pl f (rung f y) - b).toNat + (b - f.leastPlace).toNat := by omega
  rw [e1, e2, signed_scale, signed_scale, compare_mul]

theorem rg_scale (f : Format) (m k : Nat) (p : Int) : rg f (m * 2 ^ k) (p - k) = rg f m p := by unfold rg; rw [rg0_scale]

theorem rg_zero (f : Format) (p : Int) : rg f 0 p = 0 := by unfold rg rg0; rw [if_pos rfl, Nat.zero_min]

theorem rg_le {f : Format} {n c k : Nat} {p : Int} (hp : p + k = f.leastPlace) (h : n ≤ num f c * 2 ^ k) : rg f n p ≤ c := by
  have a := rg0_mono f p h
  have e := rg0_scale f (num f c) k f.leastPlace
  rw [show f.leastPlace - (k : Int) = p by omega, rg0_num] at e
  rw [e] at a
  exact Nat.le_trans (Nat.min_le_left _ _) a

theorem rg_ge {f : Format} {n c k : Nat} {p : Int} (hp : p + k = f.leastPlace) (h : num f c * 2 ^ k ≤ n) (hc : c ≤ f.infRung) : c ≤ rg f n p := by
  have a := rg0_mono f p h
  have e := rg0_scale f (num f c) k f.leastPlace
  rw [show f.leastPlace - (k : Int) = p by omega, rg0_num] at e
  rw [e] at a
  exact Nat.le_min.2 ⟨a, hc⟩

theorem N_word (f : Format) (s : Bool) {r : Nat} (h : r < f.signWeight) : N f (f.word s r) = if s then -(num f r : Int) else num f r := by
  unfold N
  rw [rung_word f s h, ng_word f s h]

/-- THE ROUNDING LAW: what lies between two numbers of the format is rounded to a number between them. -/
theorem bd {f : Format} {T : Int} {p : Int} {k : Nat} {s : Bool} {c d : Nat} (hp : p + k = f.leastPlace) (hs : T < 0 → s = true) (hs' : 0 < T → s = false)
    (hc : fin f c) (hd : fin f d) (h1 : N f c * 2 ^ k ≤ T) (h2 : T ≤ N f d * 2 ^ k) :
    fin f (f.word s (rg f T.natAbs p)) ∧ N f c ≤ N f (f.word s (rg f T.natAbs p)) ∧ N f (f.word s (rg f T.natAbs p)) ≤ N f d := by
  have hlt := rg_lt f T.natAbs p
  have hk : (0 : Int) < 2 ^ k := Int.pow_pos (by decide)
  rw [N_word f s hlt]
  unfold fin
  rw [rung_word f s hlt]
  unfold fin at hc hd
  rcases Int.lt_trichotomy T 0 with hT | hT | hT
  · -- below nought
    have e := hs hT
    subst e
    simp only [if_true]
    have hcn : N f c < 0 := by
      rcases Int.lt_or_le (N f c) 0 with a | a
      · exact a
      · have := Int.mul_nonneg a (Int.le_of_lt hk); omega
    have hng : ng f c = true := by
      cases hb : ng f c
      · unfold N at hcn; rw [hb] at hcn; simp at hcn; omega
      · rfl
    have ec : N f c = -(num f (rung f c) : Int) := by unfold N; rw [hng]; rfl
    rw [ec, Int.neg_mul] at h1
    have hle : rg f T.natAbs p ≤ rung f c := by
      refine rg_le hp ?_
      have : ((num f (rung f c) * 2 ^ k : Nat) : Int) = (num f (rung f c) : Int) * 2 ^ k := by simp
      omega
    refine ⟨by omega, ?_, ?_⟩
    · rw [ec]; have := num_mono (f := f).2 hle; omega
    · cases hb : ng f d
      · have : N f d = (num f (rung f d) : Int) := by unfold N; rw [hb]; rfl
        rw [this]; omega
      · have ed : N f d = -(num f (rung f d) : Int) := by unfold N; rw [hb]; rfl
        rw [ed, Int.neg_mul] at h2
        rw [ed]
        have : ((num f (rung f d) * 2 ^ k : Nat) : Int) = (num f (rung f d) : Int) * 2 ^ k := by simp
        have hge : rung f d ≤ rg f T.natAbs p := rg_ge hp (by omega) (by omega)
        have := num_mono (f := f).2 hge
        omega
  · subst hT
    have e0 : rg f (0 : Int).natAbs p = 0 := rg_zero f p
    rw [e0, num_zero]
    refine ⟨by have := binade_pos f; omega, ?_, ?_⟩
    · have : N f c ≤ 0 := by
        rcases Int.lt_or_le 0 (N f c) with a | a
        · have := Int.mul_pos a hk; omega
        · exact a
      cases s <;> simpa using this
    · have : 0 ≤ N f d := by
        rcases Int.lt_or_le (N f d) 0 with a | a
        · have := Int.mul_neg_of_neg_of_pos a hk; omega
        · exact a
      cases s <;> simpa using this
  · have e := hs' hT
    subst e
    simp only [Bool.false_eq_true, if_false]
    have hdn : 0 < N f d := by
      rcases Int.lt_or_le 0 (N f d) with a | a
      · exact a
      · have := Int.mul_nonpos_of_nonpos_of_nonneg a (Int.le_of_lt hk); omega
    have hng : ng f d = false := by
      cases hb : ng f d
      · rfl
      · unfold N at hdn; rw [hb] at hdn; simp at hdn; omega
    have ed : N f d = (num f (rung f d) : Int) := by unfold N; rw [hng]; rfl
    rw [ed] at h2
    have hle : rg f T.natAbs p ≤ rung f d := by
      refine rg_le hp ?_
      have : ((num f (rung f d) * 2 ^ k : Nat) : Int) = (num f (rung f d) : Int) * 2 ^ k := by simp
      omega
    refine ⟨by omega, ?_, ?_⟩
    · cases hb : ng f c
      · have ec : N f c = (num f (rung f c) : Int) := by unfold N; rw [hb]; rfl
        rw [ec] at h1
        rw [ec]
        have : ((num f (rung f c) * 2 ^ k : Nat) : Int) = (num f (rung f c) : Int) * 2 ^ k := by simp
        have hge : rung f c ≤ rg f T.natAbs p := rg_ge hp (by omega) (by omega)
        have := num_mono (f := f).2 hge
        omega
      · have : N f c = -(num f (rung f c) : Int) := by unfold N; rw [hb]; rfl
        rw [this]; omega
    · rw [ed]; have := num_mono (f := f).2 hle; omega

/-- A finite number is told by its value and its sign. -/
theorem word_of {f : Format} {x : Nat} (hx : x < 2 ^ f.width) : f.word (ng f x) (rung f x) = x := by
  have hp : 0 < f.signWeight := Nat.two_pow_pos _
  have two : 2 ^ f.width = 2 * f.signWeight := by
    unfold Format.width Format.signWeight
    rw [Nat.add_assoc, Nat.add_comm 1, Nat.pow_succ, Nat.mul_comm]
  rw [two] at hx
  have hd := Nat.div_add_mod x f.signWeight
  have hq : x / f.signWeight < 2 := (Nat.div_lt_iff_lt_mul hp).2 hx
  unfold ng rung Format.word
  have h01 : x / f.signWeight = 0 ∨ x / f.signWeight = 1 := by
    generalize x / f.signWeight = q at hq
    omega
  rcases h01 with h | h
  · rw [h] at hd ⊢
    simp at hd ⊢; exact hd
  · rw [h] at hd ⊢
    simp at hd ⊢; exact hd

theorem eq_of_N {f : Format} {x y : Nat} (hx : x < 2 ^ f.width) (hy : y < 2 ^ f.width) (h : N f x = N f y) (hs : ng f x = ng f y) : x = y := by
  have : rung f x = rung f y := by
    unfold N at h
    rw [hs] at h
    have e : num f (rung f x) = num f (rung f y) := by
      cases hb : ng f y <;> rw [hb] at h <;> simp at h <;> omega
    have a := num_mono (f := f) (r := rung f x) (t := rung f y)
    have b := num_mono (f := f) (r := rung f y) (t := rung f x)
    rw [e] at a b
    have a' := a.1 (Nat.le_refl _)
    have b' := b.1 (Nat.le_refl _)
    omega
  rw [← word_of hx, ← word_of hy, hs, this]

theorem ng_of_N {f : Format} {x : Nat} (h : N f x ≠ 0) : ng f x = decide (N f x < 0) := by
  unfold N at h ⊢
  cases hb : ng f x
  · rw [hb] at h; simp at h ⊢
  · rw [hb] at h; simp at h ⊢; omega

/-- '+' and '-' of finite numbers. -/
theorem sum_fin {f : Format} (he : 0 < f.exponentBits) {x y : Nat} (hx : fin f x) (hy : fin f y) :
    f.add x y = some (f.word (if N f x + N f y = 0 then ng f x && ng f y else decide (N f x + N f y < 0)) (rg f (N f x + N f y).natAbs f.leastPlace)) := by
  unfold Format.add
  rw [read_fin he hx, read_fin he hy]
  simp only [Datum.sum, Option.map_some, Format.write, nearest_eq]
  have px := pl_ge f (rung f x)
  have py := pl_ge f (rung f y)
  rw [← signed_N x, ← signed_N y]
  generalize hb : min (pl f (rung f x)) (pl f (rung f y)) = b
  have e1 : (pl f (rung f x) - f.leastPlace).toNat = (pl f (rung f x) - b).toNat + (b - f.leastPlace).toNat := by omega
  have e2 : (pl f (rung f y) - f.leastPlace).toNat = (pl f (rung f y) - b).toNat + (b - f.leastPlace).toNat := by omega
  rw [e1, e2, signed_scale, signed_scale, ← Int.add_mul]
  generalize signed (ng f x) (mg f (rung f x)) (pl f (rung f x) - b).toNat + signed (ng f y) (mg f (rung f y)) (pl f (rung f y) - b).toNat = t
  have hk : (0 : Int) < 2 ^ (b - f.leastPlace).toNat := Int.pow_pos (by decide)
  have h0 : (t * 2 ^ (b - f.leastPlace).toNat = 0) ↔ (t = 0) := by
    rw [Int.mul_eq_zero]; exact ⟨fun h => h.resolve_right (by omega), fun h => .inl h⟩
  have h1 : (t * 2 ^ (b - f.leastPlace).toNat < 0) ↔ (t < 0) := by
    constructor
    · intro h
      rcases Int.lt_or_le t 0 with a | a
      · exact a
      · have := Int.mul_nonneg a (Int.le_of_lt hk); omega
    · exact fun h => Int.mul_neg_of_neg_of_pos h hk
  have h2 : (t * 2 ^ (b - f.leastPlace).toNat).natAbs = t.natAbs * 2 ^ (b - f.leastPlace).toNat := by
    rw [Int.natAbs_mul, Int.natAbs_pow]; rfl
  simp only [h0, h1, h2]
  have e := rg_scale f t.natAbs (b - f.leastPlace).toNat b
  rw [show b - ((b - f.leastPlace).toNat : Int) = f.leastPlace by omega] at e
  rw [e]

theorem add_bd {f : Format} (he : 0 < f.exponentBits) {x y c d : Nat} (hx : fin f x) (hy : fin f y) (hc : fin f c) (hd : fin f d)
    (h1 : N f c ≤ N f x + N f y) (h2 : N f x + N f y ≤ N f d) : ∃ z, f.add x y = some z ∧ z < 2 ^ f.width ∧ fin f z ∧ N f c ≤ N f z ∧ N f z ≤ N f d := by
  have hs := sum_fin he hx hy
  refine ⟨_, hs, f.add_lt hs, ?_⟩
  refine bd (k := 0) (by omega) ?_ ?_ hc hd (by simpa using h1) (by simpa using h2)
  · intro h; rw [if_neg (by omega)]; simpa using h
  · intro h; rw [if_neg (by omega)]; simp; omega

/-- The opposite of a word. -/
def opp (f : Format) (x : Nat) : Nat := f.word (!ng f x) (rung f x)

theorem rung_lt (f : Format) (x : Nat) : rung f x < f.signWeight := Nat.mod_lt _ (Nat.two_pow_pos _)

theorem fin_opp {f : Format} {x : Nat} (h : fin f x) : fin f (opp f x) := by
  unfold fin opp; rw [rung_word f _ (rung_lt f x)]; exact h

theorem N_opp (f : Format) (x : Nat) : N f (opp f x) = -N f x := by
  unfold opp; rw [N_word f _ (rung_lt f x)]; unfold N
  cases ng f x <;> simp

theorem sub_opp {f : Format} (he : 0 < f.exponentBits) {x y : Nat} (hy : fin f y) : f.sub x y = f.add x (opp f y) := by
  unfold Format.sub Format.add
  rw [read_fin he hy, read_fin he (fin_opp hy)]
  unfold opp
  rw [rung_word f _ (rung_lt f y), ng_word f _ (rung_lt f y)]
  rfl

theorem sub_bd {f : Format} (he : 0 < f.exponentBits) {x y c d : Nat} (hx : fin f x) (hy : fin f y) (hc : fin f c) (hd : fin f d)
    (h1 : N f c ≤ N f x - N f y) (h2 : N f x - N f y ≤ N f d) : ∃ z, f.sub x y = some z ∧ z < 2 ^ f.width ∧ fin f z ∧ N f c ≤ N f z ∧ N f z ≤ N f d := by
  rw [sub_opp he hy]
  refine add_bd he hx (fin_opp hy) hc hd ?_ ?_ <;> rw [N_opp] <;> omega

/-- '*' of finite numbers. -/
theorem mul_fin {f : Format} (he : 0 < f.exponentBits) {x y : Nat} (hx : fin f x) (hy : fin f y) :
    f.mul x y = some (f.word (ng f x ^^ ng f y) (rg f (N f x * N f y).natAbs (f.leastPlace + f.leastPlace))) := by
  unfold Format.mul
  rw [read_fin he hx, read_fin he hy]
  simp only [Datum.product, Option.map_some, Format.write, nearest_eq]
  have px := pl_ge f (rung f x)
  have py := pl_ge f (rung f y)
  have e : (N f x * N f y).natAbs = num f (rung f x) * num f (rung f y) := by
    rw [Int.natAbs_mul]
    unfold N
    congr 1
    · split <;> omega
    · split <;> omega
  rw [e]
  unfold num
  have e2 : mg f (rung f x) * 2 ^ (pl f (rung f x) - f.leastPlace).toNat * (mg f (rung f y) * 2 ^ (pl f (rung f y) - f.leastPlace).toNat) =
      mg f (rung f x) * mg f (rung f y) * 2 ^ ((pl f (rung f x) - f.leastPlace).toNat + (pl f (rung f y) - f.leastPlace).toNat) := by
    rw [Nat.pow_add]; simp only [Nat.mul_assoc, Nat.mul_left_comm]
  rw [e2]
  have e3 := rg_scale f (mg f (rung f x) * mg f (rung f y)) ((pl f (rung f x) - f.leastPlace).toNat + (pl f (rung f y) - f.leastPlace).toNat) (pl f (rung f x) + pl f (rung f y))
  rw [show pl f (rung f x) + pl f (rung f y) - (((pl f (rung f x) - f.leastPlace).toNat + (pl f (rung f y) - f.leastPlace).toNat : Nat) : Int) = f.leastPlace + f.leastPlace by omega] at e3
  rw [e3]

/-- One. -/
def U (f : Format) : Int := 2 ^ (-f.leastPlace).toNat

theorem sgn_mul {f : Format} {x y : Nat} : (N f x * N f y < 0 → (ng f x ^^ ng f y) = true) ∧ (0 < N f x * N f y → (ng f x ^^ ng f y) = false) := by
  by_cases hx : N f x = 0
  · rw [hx, Int.zero_mul]; omega
  by_cases hy : N f y = 0
  · rw [hy, Int.mul_zero]; omega
  rw [ng_of_N hx, ng_of_N hy]
  rcases Int.lt_or_le (N f x) 0 with a | a <;> rcases Int.lt_or_le (N f y) 0 with b | b
  · have := Int.mul_pos_of_neg_of_neg a b; simp [a, b]; omega
  · have := Int.mul_neg_of_neg_of_pos a (show 0 < N f y by omega); simp [a, Int.not_lt.2 b]; omega
  · have := Int.mul_neg_of_pos_of_neg (show 0 < N f x by omega) b; simp [b, Int.not_lt.2 a]; omega
  · have := Int.mul_pos (show 0 < N f x by omega) (show 0 < N f y by omega); simp [Int.not_lt.2 a, Int.not_lt.2 b]; omega

theorem mul_bd {f : Format} (he : 0 < f.exponentBits) (hl : f.leastPlace ≤ 0) {x y c d : Nat} (hx : fin f x) (hy : fin f y) (hc : fin f c) (hd : fin f d)
    (h1 : N f c * U f ≤ N f x * N f y) (h2 : N f x * N f y ≤ N f d * U f) : ∃ z, f.mul x y = some z ∧ z < 2 ^ f.width ∧ fin f z ∧ N f c ≤ N f z ∧ N f z ≤ N f d := by
  have hs := mul_fin he hx hy
  refine ⟨_, hs, f.mul_lt hs, ?_⟩
  exact bd (k := (-f.leastPlace).toNat) (by omega) sgn_mul.1 sgn_mul.2 hc hd h1 h2

theorem sh {a b e1 e2 e3 e4 : Nat} (h : a * 2 ^ e1 ≤ b * 2 ^ e2) (he : e2 + e3 = e1 + e4) : a * 2 ^ e3 ≤ b * 2 ^ e4 := by
  have h1 := Nat.mul_le_mul_right (2 ^ e3) h
  have l : a * 2 ^ e1 * 2 ^ e3 = a * 2 ^ e3 * 2 ^ e1 := Nat.mul_right_comm _ _ _
  have r : b * 2 ^ e2 * 2 ^ e3 = b * 2 ^ e4 * 2 ^ e1 := by rw [Nat.mul_assoc, ← Nat.pow_add, he, Nat.mul_assoc, ← Nat.pow_add, Nat.add_comm e1]
  rw [l, r] at h1
  exact Nat.le_of_mul_le_mul_right h1 (Nat.two_pow_pos _)

theorem mg_lt (f : Format) (r : Nat) : mg f r < 2 ^ (f.fractionBits + 1) := by
  have hb : f.binade = 2 ^ f.fractionBits := rfl
  have := binade_pos f
  have := Nat.mod_lt r this
  unfold mg
  rw [Nat.pow_succ]
  split <;> omega

theorem mg_eq_zero {f : Format} {r : Nat} : mg f r = 0 ↔ r = 0 := by
  have := binade_pos f
  unfold mg
  split <;> omega

/-- A rung is not below what is not above its number. -/
theorem rg_le' {f : Format} {D c : Nat} {p : Int} (h : vle D p (mg f c) (pl f c)) : rg f D p ≤ c := by
  have := rg0_vle f h
  rw [rg0_self] at this
  exact Nat.le_trans (Nat.min_le_left _ _) this

theorem rg_ge' {f : Format} {D c : Nat} {p : Int} (h : vle (mg f c) (pl f c) D p) (hc : c ≤ f.infRung) : c ≤ rg f D p := by
  have := rg0_vle f h
  rw [rg0_self] at this
  exact Nat.le_min.2 ⟨this, hc⟩

section div
variable (F m n : Nat)
/-- The quotient's digits. -/
def qmore : Nat := F + 2 + n.log2 - m.log2
def qdig : Nat := 2 * (m * 2 ^ qmore F m n / n) + (m * 2 ^ qmore F m n % n != 0).toNat

theorem qdig_big (hm : m ≠ 0) (_hn : n ≠ 0) : 2 ^ (F + 1) * n ≤ m * 2 ^ qmore F m n := by
  have a := Nat.log2_self_le hm
  have b := @Nat.lt_log2_self n
  have c : 2 ^ (m.log2 + qmore F m n) ≤ m * 2 ^ qmore F m n := by rw [Nat.pow_add]; exact Nat.mul_le_mul_right _ a
  have d : 2 ^ (F + 1) * n ≤ 2 ^ (F + 1) * 2 ^ (n.log2 + 1) := Nat.mul_le_mul_left _ (Nat.le_of_lt b)
  rw [← Nat.pow_add] at d
  have e : F + 1 + (n.log2 + 1) ≤ m.log2 + qmore F m n := by unfold qmore; omega
  exact Nat.le_trans d (Nat.le_trans (Nat.pow_le_pow_right (by omega) e) c)

theorem qdig_le {t : Nat} (_hn : n ≠ 0) (h : m * 2 ^ qmore F m n ≤ t * n) : qdig F m n ≤ 2 * t := by
  unfold qdig
  generalize m * 2 ^ qmore F m n = M at *
  have hq : M / n ≤ t := by
    have := Nat.div_le_div_right (c := n) h
    rwa [Nat.mul_div_cancel _ (Nat.pos_of_ne_zero _hn)] at this
  rcases Nat.lt_or_ge (M / n) t with a | a
  · have : (M % n != 0).toNat ≤ 1 := Bool.toNat_le _
    omega
  · have e : M / n = t := by omega
    have hd := Nat.div_add_mod M n
    rw [e, Nat.mul_comm] at hd
    have : M % n = 0 := by omega
    rw [this, e]; simp

theorem qdig_ge {t : Nat} (hn : n ≠ 0) (h : t * n ≤ m * 2 ^ qmore F m n) : 2 * t ≤ qdig F m n := by
  unfold qdig
  have : t ≤ m * 2 ^ qmore F m n / n := (Nat.le_div_iff_mul_le (by omega)).2 h
  omega
end div

theorem div_fin {f : Format} (he : 0 < f.exponentBits) {x y : Nat} (hx : fin f x) (hy : fin f y) (hy0 : rung f y ≠ 0) :
    f.div x y = some (f.word (ng f x ^^ ng f y) (rg f (qdig f.fractionBits (mg f (rung f x)) (mg f (rung f y)))
      (pl f (rung f x) - pl f (rung f y) - qmore f.fractionBits (mg f (rung f x)) (mg f (rung f y)) - 1))) := by
  unfold Format.div
  rw [read_fin he hx, read_fin he hy]
  have hn : mg f (rung f y) ≠ 0 := fun h => hy0 (mg_eq_zero.1 h)
  simp only [Datum.quotient, hn, if_false, Option.map_some, Format.write, nearest_eq, Nat.shiftLeft_eq]
  rfl

theorem div_rung {f : Format} (hl : f.leastPlace ≤ 0) {a b c : Nat} (hb : b ≠ 0) :
    (num f a * 2 ^ (-f.leastPlace).toNat ≤ num f c * num f b → rg f (qdig f.fractionBits (mg f a) (mg f b)) (pl f a - pl f b - qmore f.fractionBits (mg f a) (mg f b) - 1) ≤ c) ∧
    (num f c * num f b ≤ num f a * 2 ^ (-f.leastPlace).toNat → c ≤ f.infRung → c ≤ rg f (qdig f.fractionBits (mg f a) (mg f b)) (pl f a - pl f b - qmore f.fractionBits (mg f a) (mg f b) - 1)) := by
  have pa := pl_ge f a
  have pb := pl_ge f b
  have pc := pl_ge f c
  have hn : mg f b ≠ 0 := fun h => hb (mg_eq_zero.1 h)
  have hcl := mg_lt f c
  unfold num
  generalize mg f a = m at *
  generalize mg f b = n at *
  generalize hi : pl f a = i at *
  generalize hj : pl f b = j at *
  generalize hF : f.fractionBits = F at *
  generalize hmo : qmore F m n = more at *
  generalize hp : i - j - more - 1 = p at *
  have e1 : m * 2 ^ (i - f.leastPlace).toNat * 2 ^ (-f.leastPlace).toNat = m * 2 ^ ((i - f.leastPlace).toNat + (-f.leastPlace).toNat) := by rw [Nat.mul_assoc, ← Nat.pow_add]
  have e2 : mg f c * 2 ^ (pl f c - f.leastPlace).toNat * (n * 2 ^ (j - f.leastPlace).toNat) = mg f c * n * 2 ^ ((pl f c - f.leastPlace).toNat + (j - f.leastPlace).toNat) := by
    rw [Nat.pow_add, Nat.mul_mul_mul_comm]
  rw [e1, e2]
  by_cases hm : m = 0
  · subst hm
    have hq : qdig F 0 n = 0 := by unfold qdig; simp
    rw [hq, rg_zero]
    refine ⟨fun _ => Nat.zero_le _, fun h _ => ?_⟩
    have h0 : mg f c * n * 2 ^ ((pl f c - f.leastPlace).toNat + (j - f.leastPlace).toNat) = 0 := by omega
    have h1 : mg f c * n = 0 := (Nat.mul_eq_zero.1 h0).resolve_right (by have := Nat.two_pow_pos ((pl f c - f.leastPlace).toNat + (j - f.leastPlace).toNat); omega)
    have h2 : mg f c = 0 := (Nat.mul_eq_zero.1 h1).resolve_right hn
    have := mg_eq_zero.1 h2
    omega
  have hbig := qdig_big F m n hm hn
  rw [hmo] at hbig
  have hbig2 : 2 ^ (F + 2) ≤ qdig F m n := by
    have := qdig_ge F m n (t := 2 ^ (F + 1)) hn (by rw [hmo]; exact hbig)
    rw [Nat.pow_succ 2 (F + 1)]; omega
  rcases Int.lt_or_le p (pl f c) with hlt | hge
  · -- the bound is even in units of the quotient
    have e6 : mg f c * 2 ^ (pl f c - p).toNat = 2 * (mg f c * 2 ^ (pl f c - p - 1).toNat) := by
      rw [show (pl f c - p).toNat = (pl f c - p - 1).toNat + 1 by omega, Nat.pow_succ, ← Nat.mul_assoc, Nat.mul_comm]
    have e5 : mg f c * n * 2 ^ (pl f c - p - 1).toNat = mg f c * 2 ^ (pl f c - p - 1).toNat * n := Nat.mul_right_comm _ _ _
    constructor
    · intro h
      refine rg_le' ?_
      unfold vle
      rw [show min p (pl f c) = p by omega, show (p - p).toNat = 0 by omega, Nat.pow_zero, Nat.mul_one, e6]
      have h3 := sh h (e3 := more) (e4 := (pl f c - p - 1).toNat) (by omega)
      rw [e5, ← hmo] at h3
      exact qdig_le F m n hn h3
    · intro h hci
      refine rg_ge' ?_ hci
      unfold vle
      rw [show min (pl f c) p = p by omega, show (p - p).toNat = 0 by omega, Nat.pow_zero, Nat.mul_one, e6]
      have h3 := sh h (e4 := more) (e3 := (pl f c - p - 1).toNat) (by omega)
      rw [e5, ← hmo] at h3
      exact qdig_ge F m n hn h3
  · constructor
    · intro h
      exfalso
      have h3 := sh h (e3 := more + 1 + (p - pl f c).toNat) (e4 := 0) (by omega)
      rw [Nat.pow_zero, Nat.mul_one, Nat.pow_add, Nat.pow_succ, ← Nat.mul_assoc, ← Nat.mul_assoc] at h3
      have h4 : mg f c * n < 2 ^ (F + 1) * n := Nat.mul_lt_mul_of_pos_right hcl (Nat.pos_of_ne_zero hn)
      have h5 : m * 2 ^ more ≤ m * 2 ^ more * 2 * 2 ^ (p - pl f c).toNat := by
        rw [Nat.mul_assoc]; exact Nat.le_mul_of_pos_right _ (Nat.mul_pos (by omega) (Nat.two_pow_pos _))
      omega
    · intro _ hci
      refine rg_ge' ?_ hci
      unfold vle
      rw [show min (pl f c) p = pl f c by omega, show (pl f c - pl f c).toNat = 0 by omega, Nat.pow_zero, Nat.mul_one]
      have : 2 ^ (F + 2) = 2 ^ (F + 1) * 2 := Nat.pow_succ ..
      have : qdig F m n ≤ qdig F m n * 2 ^ (p - pl f c).toNat := Nat.le_mul_of_pos_right _ (Nat.two_pow_pos _)
      omega

theorem num_abs (f : Format) (x : Nat) : (num f (rung f x) : Int) = (N f x).natAbs := by
  unfold N; split <;> omega

/-- A magnitude between two bounds, with its sign. -/
theorem between {f : Format} {s : Bool} {a r c d : Nat} {u B : Int} (hu : 0 < u) (hB : 0 < B) (hr : r < f.signWeight)
    (up : ∀ c, (a : Int) * u ≤ num f c * B → r ≤ c) (low : ∀ c, (num f c : Int) * B ≤ a * u → c ≤ f.infRung → c ≤ r)
    (hc : fin f c) (hd : fin f d) (h1 : N f c * B ≤ (if s then -(a : Int) else a) * u) (h2 : (if s then -(a : Int) else a) * u ≤ N f d * B) :
    fin f (f.word s r) ∧ N f c ≤ N f (f.word s r) ∧ N f (f.word s r) ≤ N f d := by
  rw [N_word f _ hr]
  unfold fin
  rw [rung_word f _ hr]
  unfold fin at hc hd
  have ha : (0 : Int) ≤ a * u := Int.mul_nonneg (by omega) (by omega)
  have nc := num_abs f c
  have nd := num_abs f d
  cases s
  · simp only [Bool.false_eq_true, if_false] at h1 h2 ⊢
    have hdn : 0 ≤ N f d := by
      rcases Int.lt_or_le (N f d) 0 with q | q
      · have := Int.mul_neg_of_neg_of_pos q hB; omega
      · exact q
    have ed : (num f (rung f d) : Int) = N f d := by omega
    have r1 := up (rung f d) (by rw [ed]; exact h2)
    have r2 := num_mono (f := f).2 r1
    refine ⟨by omega, ?_, by omega⟩
    rcases Int.lt_or_le 0 (N f c) with q | q
    · have ec : (num f (rung f c) : Int) = N f c := by omega
      have r3 := low (rung f c) (by rw [ec]; exact h1) (by omega)
      have r4 := num_mono (f := f).2 r3
      omega
    · omega
  · simp only [if_true] at h1 h2 ⊢
    rw [Int.neg_mul] at h1 h2
    have hcn : N f c ≤ 0 := by
      rcases Int.lt_or_le 0 (N f c) with q | q
      · have := Int.mul_pos q hB; omega
      · exact q
    have ec : (num f (rung f c) : Int) = -N f c := by omega
    have r1 := up (rung f c) (by rw [ec, Int.neg_mul]; omega)
    have r2 := num_mono (f := f).2 r1
    refine ⟨by omega, by omega, ?_⟩
    rcases Int.lt_or_le (N f d) 0 with q | q
    · have ed : (num f (rung f d) : Int) = -N f d := by omega
      have r3 := low (rung f d) (by rw [ed, Int.neg_mul]; omega) (by omega)
      have r4 := num_mono (f := f).2 r3
      omega
    · omega

theorem U_nat (f : Format) : (U f : Int) = ((2 ^ (-f.leastPlace).toNat : Nat) : Int) := by unfold U; simp
theorem U_pos (f : Format) : 0 < U f := by rw [U_nat]; have := Nat.two_pow_pos (-f.leastPlace).toNat; omega

/-- '/' by a number above nought. -/
theorem div_bd {f : Format} (he : 0 < f.exponentBits) (hl : f.leastPlace ≤ 0) {x y c d : Nat} (hx : fin f x) (hy : fin f y) (hc : fin f c) (hd : fin f d) (hy0 : 0 < N f y)
    (h1 : N f c * N f y ≤ N f x * U f) (h2 : N f x * U f ≤ N f d * N f y) : ∃ z, f.div x y = some z ∧ z < 2 ^ f.width ∧ fin f z ∧ N f c ≤ N f z ∧ N f z ≤ N f d ∧ ng f z = ng f x := by
  have hyn : ng f y = false := by
    cases hb : ng f y
    · rfl
    · unfold N at hy0; rw [hb] at hy0; simp at hy0; omega
  have ey : N f y = (num f (rung f y) : Int) := by unfold N; rw [hyn]; rfl
  have hy1 : rung f y ≠ 0 := by
    intro h; rw [ey, h, num_zero] at hy0; omega
  have hs := div_fin he hx hy hy1
  refine ⟨_, hs, f.div_lt hs, ?_⟩
  have hlt := rg_lt f (qdig f.fractionBits (mg f (rung f x)) (mg f (rung f y))) (pl f (rung f x) - pl f (rung f y) - qmore f.fractionBits (mg f (rung f x)) (mg f (rung f y)) - 1)
  rw [hyn, Bool.xor_false, ng_word f _ hlt]
  have key := fun c => div_rung hl (a := rung f x) (b := rung f y) (c := c) hy1
  have ex : N f x = if ng f x then -(num f (rung f x) : Int) else num f (rung f x) := rfl
  rw [ex] at h1 h2
  have := between (U_pos f) hy0 hlt (fun c h => (key c).1 (by rw [U_nat, ey] at h; exact_mod_cast h)) (fun c h hi => (key c).2 (by rw [U_nat, ey] at h; exact_mod_cast h) hi) hc hd h1 h2
  exact ⟨this.1, this.2.1, this.2.2, rfl⟩

theorem rootFrom_le (n : Nat) : ∀ k r, r * r ≤ n → Datum.rootFrom n k r * Datum.rootFrom n k r ≤ n := by
  intro k
  induction k with
  | zero => intro r h; exact h
  | succ k ih =>
    intro r h
    unfold Datum.rootFrom
    by_cases c : (r + 1 <<< k) * (r + 1 <<< k) ≤ n
    · simp only [c, if_true]; exact ih _ c
    · simp only [c, if_false]; exact ih _ h

def smore (F m : Nat) (i : Int) : Nat := 2 * (F + 2) - m.log2 + ((i - ((2 * (F + 2) - m.log2 : Nat) : Int)) % 2).toNat
def swhole (n : Nat) : Nat := Datum.rootFrom n (n.log2 / 2 + 1) 0
def sdig (n : Nat) : Nat := 2 * swhole n + (swhole n * swhole n != n).toNat

theorem sqrt_fin {f : Format} (he : 0 < f.exponentBits) {x : Nat} (hx : fin f x) :
    f.sqrt x = if rung f x = 0 then some (f.word (ng f x) 0) else if ng f x then none else
      some (f.word false (rg f (sdig (mg f (rung f x) * 2 ^ smore f.fractionBits (mg f (rung f x)) (pl f (rung f x)))) ((pl f (rung f x) - smore f.fractionBits (mg f (rung f x)) (pl f (rung f x))) / 2 - 1))) := by
  unfold Format.sqrt
  rw [read_fin he hx]
  simp only [Datum.root]
  by_cases h0 : rung f x = 0
  · have hm : mg f (rung f x) = 0 := mg_eq_zero.2 h0
    rw [if_pos hm, if_pos h0]
    simp only [Option.map_some, Format.write, nearest_eq, hm, rg_zero]
  · have hm : ¬ mg f (rung f x) = 0 := fun h => h0 (mg_eq_zero.1 h)
    rw [if_neg hm, if_neg h0]
    cases ng f x
    · simp only [Bool.false_eq_true, if_false, Option.map_some, Format.write, nearest_eq, Nat.shiftLeft_eq]
      rfl
    · simp

theorem sdig_le {n t : Nat} (h : n ≤ t * t) : sdig n ≤ 2 * t := by
  have hw : swhole n * swhole n ≤ n := rootFrom_le n _ 0 (by omega)
  unfold sdig
  have h1 : swhole n ≤ t := by
    rcases Nat.lt_or_ge t (swhole n) with a | a
    · have := Nat.mul_lt_mul'' a a; omega
    · exact a
  have h2 : (swhole n * swhole n != n).toNat ≤ 1 := Bool.toNat_le _
  rcases Nat.lt_or_ge (swhole n) t with a | a
  · omega
  · have e : swhole n = t := by omega
    rw [e] at hw ⊢
    have : t * t = n := by omega
    rw [this]; simp

theorem smore_even (F m : Nat) (i : Int) : (i - smore F m i) % 2 = 0 := by
  unfold smore
  generalize 2 * (F + 2) - m.log2 = k
  omega

theorem sqrt_rung {f : Format} (hl : f.leastPlace ≤ 0) {a c : Nat} (ha : a ≠ 0) (h : num f a * 2 ^ (-f.leastPlace).toNat ≤ num f c * num f c) :
    rg f (sdig (mg f a * 2 ^ smore f.fractionBits (mg f a) (pl f a))) ((pl f a - smore f.fractionBits (mg f a) (pl f a)) / 2 - 1) ≤ c := by
  have pa := pl_ge f a
  have pc := pl_ge f c
  have hm : mg f a ≠ 0 := fun h => ha (mg_eq_zero.1 h)
  have hcl := mg_lt f c
  have hev := smore_even f.fractionBits (mg f a) (pl f a)
  have hge : 2 * (f.fractionBits + 2) - (mg f a).log2 ≤ smore f.fractionBits (mg f a) (pl f a) := by unfold smore; omega
  unfold num at h
  generalize mg f a = m at *
  generalize hi : pl f a = i at *
  generalize hF : f.fractionBits = F at *
  generalize hmo : smore F m i = more at *
  have e1 : m * 2 ^ (i - f.leastPlace).toNat * 2 ^ (-f.leastPlace).toNat = m * 2 ^ ((i - f.leastPlace).toNat + (-f.leastPlace).toNat) := by rw [Nat.mul_assoc, ← Nat.pow_add]
  have e2 : mg f c * 2 ^ (pl f c - f.leastPlace).toNat * (mg f c * 2 ^ (pl f c - f.leastPlace).toNat) = mg f c * mg f c * 2 ^ ((pl f c - f.leastPlace).toNat + (pl f c - f.leastPlace).toNat) := by
    rw [Nat.pow_add, Nat.mul_mul_mul_comm]
  rw [e1, e2] at h
  rcases Int.lt_or_le (pl f c) ((i - more) / 2) with hlt | hge2
  · exfalso
    have h3 := sh h (e3 := more + (i - more - 2 * pl f c).toNat) (e4 := 0) (by omega)
    rw [Nat.pow_zero, Nat.mul_one, Nat.pow_add, ← Nat.mul_assoc] at h3
    have h4 : mg f c * mg f c < 2 ^ (F + 1) * 2 ^ (F + 1) := Nat.mul_lt_mul'' hcl hcl
    rw [← Nat.pow_add] at h4
    have h5 : m * 2 ^ more ≤ m * 2 ^ more * 2 ^ (i - more - 2 * pl f c).toNat := Nat.le_mul_of_pos_right _ (Nat.two_pow_pos _)
    have h6 := Nat.log2_self_le hm
    have h7 : 2 ^ (m.log2 + more) ≤ m * 2 ^ more := by rw [Nat.pow_add]; exact Nat.mul_le_mul_right _ h6
    have h8 : 2 ^ (F + 1 + (F + 1)) ≤ 2 ^ (m.log2 + more) := Nat.pow_le_pow_right (by omega) (by omega)
    omega
  · refine rg_le' ?_
    unfold vle
    rw [show min ((i - (more : Int)) / 2 - 1) (pl f c) = (i - more) / 2 - 1 by omega, show ((i - (more : Int)) / 2 - 1 - ((i - more) / 2 - 1)).toNat = 0 by omega, Nat.pow_zero, Nat.mul_one]
    have h3 := sh h (e3 := more) (e4 := (pl f c - (i - more) / 2).toNat + (pl f c - (i - more) / 2).toNat) (by omega)
    have e3 : mg f c * mg f c * 2 ^ ((pl f c - (i - more) / 2).toNat + (pl f c - (i - more) / 2).toNat) = (mg f c * 2 ^ (pl f c - (i - more) / 2).toNat) * (mg f c * 2 ^ (pl f c - (i - more) / 2).toNat) := by
      rw [Nat.pow_add, Nat.mul_mul_mul_comm]
    rw [e3] at h3
    have h4 := sdig_le h3
    have e6 : mg f c * 2 ^ (pl f c - ((i - more) / 2 - 1)).toNat = 2 * (mg f c * 2 ^ (pl f c - (i - more) / 2).toNat) := by
      rw [show (pl f c - ((i - (more : Int)) / 2 - 1)).toNat = (pl f c - (i - more) / 2).toNat + 1 by omega, Nat.pow_succ, ← Nat.mul_assoc, Nat.mul_comm]
    rw [e6]; exact h4

/-- The square root of a number not below nought. -/
theorem sqrt_bd {f : Format} (he : 0 < f.exponentBits) (hl : f.leastPlace ≤ 0) {x d : Nat} (hx : fin f x) (hd : fin f d) (hx0 : 0 ≤ N f x) (hd0 : 0 ≤ N f d)
    (h : N f x * U f ≤ N f d * N f d) : ∃ z, f.sqrt x = some z ∧ z < 2 ^ f.width ∧ fin f z ∧ 0 ≤ N f z ∧ N f z ≤ N f d := by
  have hs := sqrt_fin he hx
  have nx := num_abs f x
  have nd := num_abs f d
  by_cases h0 : rung f x = 0
  · rw [if_pos h0] at hs
    refine ⟨_, hs, f.sqrt_lt hs, ?_⟩
    have hp : 0 < f.signWeight := Nat.two_pow_pos _
    rw [N_word f _ hp, num_zero]
    unfold fin
    rw [rung_word f _ hp]
    refine ⟨by unfold fin at hx; omega, ?_, ?_⟩
    · cases ng f x <;> simp
    · cases ng f x <;> simpa using hd0
  · have hng : ng f x = false := by
      cases hb : ng f x
      · rfl
      · exfalso
        have : num f (rung f x) ≠ 0 := fun e => h0 (num_eq_zero.1 e)
        unfold N at hx0; rw [hb] at hx0; simp at hx0; omega
    rw [if_neg h0, hng] at hs
    simp only [Bool.false_eq_true, if_false] at hs
    refine ⟨_, hs, f.sqrt_lt hs, ?_⟩
    have hlt := rg_lt f (sdig (mg f (rung f x) * 2 ^ smore f.fractionBits (mg f (rung f x)) (pl f (rung f x)))) ((pl f (rung f x) - smore f.fractionBits (mg f (rung f x)) (pl f (rung f x))) / 2 - 1)
    have ex : N f x = num f (rung f x) := by omega
    have ed : N f d = num f (rung f d) := by omega
    rw [ex, ed, U_nat] at h
    have hle := sqrt_rung hl (a := rung f x) (c := rung f d) h0 (by exact_mod_cast h)
    have hmono := num_mono (f := f).2 hle
    unfold fin at hd ⊢
    rw [N_word f _ hlt, rung_word f _ hlt]
    simp only [Bool.false_eq_true, if_false]
    exact ⟨by omega, by omega, by omega⟩

/-- A magnitude of at most as many digits as the format keeps is written as it is. -/
theorem rg0_rep {f : Format} {m : Nat} {p : Int} (hm : m < 2 ^ (f.fractionBits + 1)) (hp : f.leastPlace ≤ p) : num f (rg0 f m p) = m * 2 ^ (p - f.leastPlace).toNat := by
  have hB := binade_pos f
  have hb : f.binade = 2 ^ f.fractionBits := rfl
  by_cases h0 : m = 0
  · subst h0; unfold rg0; rw [if_pos rfl, num_zero, Nat.zero_mul]
  · have hL : m.log2 ≤ f.fractionBits := by have := (Nat.log2_lt h0).2 hm; omega
    have l1 := Nat.log2_self_le h0
    have l2 := @Nat.lt_log2_self m
    unfold rg0
    rw [if_neg h0]
    generalize hl : max (p + m.log2 - f.fractionBits) f.leastPlace = last
    simp only
    have hle : last ≤ p := by omega
    rw [show (last - p).toNat = 0 by omega, rd_zero]
    have k2 : m * 2 ^ (p - last).toNat < 2 * f.binade := by
      have : m * 2 ^ (p - last).toNat < 2 ^ (m.log2 + 1) * 2 ^ (p - last).toNat := Nat.mul_lt_mul_of_pos_right l2 (Nat.two_pow_pos _)
      rw [← Nat.pow_add] at this
      have h3 : 2 ^ (m.log2 + 1 + (p - last).toNat) ≤ 2 ^ (f.fractionBits + 1) := Nat.pow_le_pow_right (by omega) (by omega)
      rw [Nat.pow_succ 2 f.fractionBits] at h3
      omega
    have k3 : last ≠ f.leastPlace → f.binade ≤ m * 2 ^ (p - last).toNat := by
      intro h
      have : 2 ^ m.log2 * 2 ^ (p - last).toNat ≤ m * 2 ^ (p - last).toNat := Nat.mul_le_mul_right _ l1
      rw [← Nat.pow_add] at this
      have h3 : 2 ^ f.fractionBits ≤ 2 ^ (m.log2 + (p - last).toNat) := Nat.pow_le_pow_right (by omega) (by omega)
      omega
    have e : m * 2 ^ (p - f.leastPlace).toNat = m * 2 ^ (p - last).toNat * 2 ^ (last - f.leastPlace).toNat := by
      rw [Nat.mul_assoc, ← Nat.pow_add]; congr 2; omega
    rw [e]
    generalize m * 2 ^ (p - last).toNat = K at *
    unfold num mg pl
    by_cases hu : last = f.leastPlace
    · rw [hu, show (f.leastPlace - f.leastPlace).toNat = 0 by omega, Nat.zero_mul, Nat.zero_add]
      by_cases hK : K < f.binade
      · rw [if_pos hK, if_pos hK]; rw [show (f.leastPlace - f.leastPlace).toNat = 0 by omega]
      · rw [if_neg hK, if_neg hK]
        have d1 : K / f.binade = 1 := by rw [Nat.div_eq_iff (by omega)]; omega
        have d2 : K % f.binade = K - f.binade := by rw [Nat.mod_eq_sub_mod (by omega), Nat.mod_eq_of_lt (by omega)]
        rw [d1, d2, show (f.leastPlace + ((1 - 1 : Nat) : Int) - f.leastPlace).toNat = 0 by omega]
        omega
    · have hK := k3 hu
      have hk : 1 ≤ (last - f.leastPlace).toNat := by omega
      have q0 : f.binade ≤ (last - f.leastPlace).toNat * f.binade := Nat.le_mul_of_pos_left _ hk
      rw [if_neg (by omega), if_neg (by omega)]
      have d1 : ((last - f.leastPlace).toNat * f.binade + K) / f.binade = (last - f.leastPlace).toNat + 1 := by
        rw [Nat.add_comm, Nat.add_mul_div_right _ _ hB]
        have : K / f.binade = 1 := by rw [Nat.div_eq_iff (by omega)]; omega
        omega
      have d2 : ((last - f.leastPlace).toNat * f.binade + K) % f.binade = K - f.binade := by
        rw [Nat.add_comm, Nat.add_mul_mod_self_right, Nat.mod_eq_sub_mod (by omega), Nat.mod_eq_of_lt (by omega)]
      rw [d1, d2, show f.binade + (K - f.binade) = K by omega]
      congr 2
      omega

theorem rg_of_num {f : Format} (r : Nat) (p : Int) (k : Nat) (hp : p + k = f.leastPlace) (hr : r ≤ f.infRung) : rg f (num f r * 2 ^ k) p = r := by
  refine Nat.le_antisymm (rg_le hp (Nat.le_refl _)) (rg_ge hp (Nat.le_refl _) hr)

/-- What a finite word's datum is in another format. -/
theorem conv_fin {f g : Format} (he : 0 < f.exponentBits) {x : Nat} (hx : fin f x) :
    f.read x = .number (ng f x) (mg f (rung f x)) (pl f (rung f x)) ∧
    g.write (f.read x) = g.word (ng f x) (rg g (num f (rung f x)) f.leastPlace) := by
  rw [read_fin he hx]
  refine ⟨rfl, ?_⟩
  have := pl_ge f (rung f x)
  simp only [Format.write, nearest_eq]
  have e := rg_scale g (mg f (rung f x)) (pl f (rung f x) - f.leastPlace).toNat (pl f (rung f x))
  rw [show pl f (rung f x) - ((pl f (rung f x) - f.leastPlace).toNat : Int) = f.leastPlace by omega] at e
  rw [← e]; rfl

theorem conv_bd {f g : Format} (he : 0 < f.exponentBits) {x c d k : Nat} (hx : fin f x) (hp : f.leastPlace + k = g.leastPlace) (hc : fin g c) (hd : fin g d)
    (h1 : N g c * 2 ^ k ≤ N f x) (h2 : N f x ≤ N g d * 2 ^ k) :
    fin g (g.write (f.read x)) ∧ N g c ≤ N g (g.write (f.read x)) ∧ N g (g.write (f.read x)) ≤ N g d := by
  rw [(conv_fin he hx).2]
  have ea : num f (rung f x) = (N f x).natAbs := by have := num_abs f x; omega
  rw [ea]
  refine bd hp ?_ ?_ hc hd h1 h2
  · intro h; have := ng_of_N (f := f) (x := x) (by omega); rw [this]; simpa using h
  · intro h; have := ng_of_N (f := f) (x := x) (by omega); rw [this]; simp; omega

theorem ng_conv {f g : Format} (he : 0 < f.exponentBits) {x : Nat} (hx : fin f x) : ng g (g.write (f.read x)) = ng f x := by
  rw [(conv_fin he hx).2, ng_word g _ (rg_lt g _ _)]

theorem single_pl (r : Nat) (h : r < single.infRung) : pl single r ≤ 104 := by
  unfold pl
  have e1 : single.binade = 8388608 := rfl
  have e2 : single.infRung = 2139095040 := rfl
  have e3 : single.leastPlace = -149 := rfl
  rw [e1, e3]; rw [e2] at h
  split
  · omega
  · have : r / 8388608 < 255 := by omega
    omega

/-- How many binary places the double's least unit lies below the single's. -/
def gapP : Nat := 925

/-- float64(x) of a finite float32: the same number. -/
theorem widen {x : Nat} (hx : fin single x) : fin double (double.write (single.read x)) ∧ N double (double.write (single.read x)) = N single x * 2 ^ gapP ∧ ng double (double.write (single.read x)) = ng single x := by
  have hn := ng_conv (g := double) (f := single) (by decide) hx
  refine ⟨?_, ?_, hn⟩
  all_goals
    have e := (conv_fin (f := single) (g := double) (by decide) hx).2
    have hm : mg single (rung single x) < 2 ^ (double.fractionBits + 1) := Nat.lt_of_lt_of_le (mg_lt single _) (by decide)
    have hr := rg0_rep (f := double) (p := pl single (rung single x)) hm (Int.le_trans (by decide) (pl_ge single _))
    have hpl := single_pl _ hx
    have hs := rg0_scale double (mg single (rung single x)) (pl single (rung single x) - single.leastPlace).toNat (pl single (rung single x))
    have hge := pl_ge single (rung single x)
    rw [show pl single (rung single x) - ((pl single (rung single x) - single.leastPlace).toNat : Int) = single.leastPlace by omega] at hs
    have hs' : rg0 double (num single (rung single x)) single.leastPlace = rg0 double (mg single (rung single x)) (pl single (rung single x)) := hs
    have hfin : rg0 double (mg single (rung single x)) (pl single (rung single x)) < double.infRung := by
      have hml := mg_lt single (rung single x)
      have : rg0 double (mg single (rung single x)) (pl single (rung single x)) ≤ rg0 double (2 ^ 24) 104 := by
        refine rg0_vle _ ?_
        unfold vle
        rw [show min (pl single (rung single x)) 104 = pl single (rung single x) by omega, Int.sub_self]
        have h1 : 1 ≤ 2 ^ (104 - pl single (rung single x)).toNat := Nat.one_le_two_pow
        have h2 : mg single (rung single x) ≤ 2 ^ 24 := Nat.le_of_lt hml
        calc mg single (rung single x) * 2 ^ (0 : Int).toNat = mg single (rung single x) := by simp
          _ ≤ 2 ^ 24 := h2
          _ ≤ 2 ^ 24 * 2 ^ (104 - pl single (rung single x)).toNat := Nat.le_mul_of_pos_right _ h1
      exact Nat.lt_of_le_of_lt this (by decide +kernel)
    have hrg : rg double (num single (rung single x)) single.leastPlace = rg0 double (mg single (rung single x)) (pl single (rung single x)) := by
      unfold rg; rw [hs']; omega
    rw [e, hrg]
    have hlt : rg0 double (mg single (rung single x)) (pl single (rung single x)) < double.signWeight := Nat.lt_trans hfin double.infRung_lt
  · unfold fin; rw [rung_word _ _ hlt]; exact hfin
  · rw [N_word _ _ hlt, hr]
    have e2 : mg single (rung single x) * 2 ^ (pl single (rung single x) - double.leastPlace).toNat = num single (rung single x) * 2 ^ gapP := by
      unfold num
      rw [Nat.mul_assoc, ← Nat.pow_add]
      have a1 : single.leastPlace = -149 := rfl
      have a2 : double.leastPlace = -1074 := rfl
      rw [a1] at hge ⊢; rw [a2]
      unfold gapP
      congr 2; omega
    rw [e2]
    unfold N
    cases ng single x
    · simp
    · simp [Int.neg_mul]

end Go.Proofs.Ytjpbimfnppmbcaa.Fl
