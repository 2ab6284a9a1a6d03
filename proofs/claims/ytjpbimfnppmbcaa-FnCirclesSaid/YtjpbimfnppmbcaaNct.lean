/- Tenths of decibels of small numbers, between integers of a fine lattice. -/
import Derived.Test.YtjpbimfnppmbcaaNcf
import Derived.Test.YtjpbimfnppmbcaaWr7
namespace Go.Proofs.Ytjpbimfnppmbcaa
open Fl Go.RowKit Ieee

/-- A value reckoned out before it is used. -/
def st {α : Type} (v : Nat) (f : Nat → α) : α := Nat.casesOn v (f 0) (fun n => f (Nat.succ n))
theorem st_eq {α : Type} (v : Nat) (f : Nat → α) : st v f = f v := by cases v <;> rfl
theorem jn_posN {a b : Option Nat} {l1 h1 l2 h2 : Nat} (ha : Jn a l1 h1) (hb : Jn b l2 h2) (k1 : l1 ≤ h1) (k2 : l2 ≤ h2) (hk : h1 * h2 / 1099511627776 + 1 ≤ 9007199254740992) :
    Jn (cop .mul .f64 a b) ((l1 * l2 / 1099511627776 : Nat) : Int) ((h1 * h2 / 1099511627776 + 1 : Nat) : Int) := by
  have hle := Nat.div_le_div_right (c := 1099511627776) (Nat.mul_le_mul k1 k2)
  refine jn_pos ha hb (by omega) (by omega) (by omega) (by omega) ?_ ?_ (okf_of (by omega) (by omega)) (okf_of (by omega) (by omega))
  · rw [← Int.natCast_mul]; generalize l1 * l2 = p; omega
  · rw [← Int.natCast_mul]; generalize h1 * h2 = p; omega
theorem jn_negN {a b : Option Nat} {l1 h1 l2 h2 : Nat} (ha : Jn a (-(h1 : Int)) (-(l1 : Int))) (hb : Jn b l2 h2) (k1 : l1 ≤ h1) (k2 : l2 ≤ h2) (hk : h1 * h2 / 1099511627776 + 1 ≤ 9007199254740992) :
    Jn (cop .mul .f64 a b) (-((h1 * h2 / 1099511627776 + 1 : Nat) : Int)) (-((l1 * l2 / 1099511627776 : Nat) : Int)) := by
  have hle := Nat.div_le_div_right (c := 1099511627776) (Nat.mul_le_mul k1 k2)
  have q1 := Nat.mul_le_mul (Nat.le_refl h1) k2
  have q2 := Nat.mul_le_mul (Nat.le_refl l1) k2
  refine jn_mul ha hb (by omega) ?_ ?_ ?_ ?_ (okf_of (by omega) (by omega)) (okf_of (by omega) (by omega))
  all_goals (simp only [Int.neg_mul]; rw [← Int.natCast_mul])
  · generalize h1 * h2 = p at *; generalize h1 * l2 = q at *; omega
  · generalize h1 * h2 = p at *; omega
  · generalize l1 * l2 = p at *; omega
  · generalize l1 * h2 = p at *; generalize l1 * l2 = q at *; omega
theorem jn_sqN {a : Option Nat} {l h : Nat} (ha : Jn a l h ∨ Jn a (-(h : Int)) (-(l : Int))) (k1 : l ≤ h) (hk : h * h / 1099511627776 + 1 ≤ 9007199254740992) :
    Jn (cop .mul .f64 a a) ((l * l / 1099511627776 : Nat) : Int) ((h * h / 1099511627776 + 1 : Nat) : Int) := by
  rcases ha with ha | ha
  · exact jn_posN ha ha k1 k1 hk
  · obtain ⟨x, rfl, _, hx, x1, x2⟩ := ha
    have hle := Nat.div_le_div_right (c := 1099511627776) (Nat.mul_le_mul k1 k1)
    have e1 : ((l * l / 1099511627776 : Nat) : Int) * 1099511627776 ≤ (l : Int) * l := by rw [← Int.natCast_mul]; generalize l * l = p; omega
    have e2 : (h : Int) * h ≤ ((h * h / 1099511627776 + 1 : Nat) : Int) * 1099511627776 := by rw [← Int.natCast_mul]; generalize h * h = p; omega
    generalize l * l / 1099511627776 = c at *
    generalize h * h / 1099511627776 + 1 = d at *
    obtain ⟨cf, cn⟩ := fw_spec (l := (c : Int)) (by omega) (by omega)
    obtain ⟨df, dn⟩ := fw_spec (l := (d : Int)) (by omega) (by omega)
    have v := Vf_pos
    have vv : 0 < Vf * Vf := Int.mul_pos v v
    rw [Int.neg_mul] at x1 x2
    have l0 : 0 ≤ (l : Int) * Vf := Int.mul_nonneg (by omega) (by omega)
    have k1 : -N double x * -N double x ≤ (h : Int) * Vf * ((h : Int) * Vf) := prod_le (by omega) (by omega) (by omega) (by omega)
    have k2 : (l : Int) * Vf * ((l : Int) * Vf) ≤ -N double x * -N double x := prod_le l0 (by omega) (by omega) (by omega)
    rw [mmm, Int.neg_mul_neg] at k1 k2
    have e3 := Int.mul_le_mul_of_nonneg_right e1 (Int.le_of_lt vv)
    have e4 := Int.mul_le_mul_of_nonneg_right e2 (Int.le_of_lt vv)
    obtain ⟨z, hz, hlt, hf, z1, z2⟩ := mul_bd (f := double) (by decide) (by decide) hx hx cf df (by rw [cn, scf]; exact Int.le_trans e3 k2) (by rw [dn, scf]; exact Int.le_trans k1 e4)
    exact ⟨z, hz, hlt, hf, by rw [← cn]; exact z1, by rw [← dn]; exact z2⟩

/-- The coefficients, from below. -/
def rlN (j : Nat) : Nat := [43980465111, 47804853381, 52357696560, 57869033040, 64677154575, 73300775185, 84577817521, 99955602525, 122167958641, 157073089682, 219902325555, 366503875925, 1099511627776].getD j 0
theorem rl_tab : ∀ j : Fin 13, jcB (rL j.1) (rlN j.1) (rlN j.1 + 1) = true := by decide +kernel
theorem rl_small : ∀ j : Fin 13, rlN j.1 ≤ 1099511627776 := by decide +kernel
def qlo (u : Nat) : Nat → Nat
  | 0 => 0
  | j + 1 => rlN j + u * qlo u j / 1099511627776
def qhi (u : Nat) : Nat → Nat
  | 0 => 0
  | j + 1 => (rlN j + 1) + (u * qhi u j / 1099511627776 + 1)
def hlo (u : Nat) : Nat :=
  st (Nat.add 43980465111 (Nat.div (Nat.mul u 0) 1099511627776)) fun q => st (Nat.add 47804853381 (Nat.div (Nat.mul u q) 1099511627776)) fun q => st (Nat.add 52357696560 (Nat.div (Nat.mul u q) 1099511627776)) fun q => st (Nat.add 57869033040 (Nat.div (Nat.mul u q) 1099511627776)) fun q => st (Nat.add 64677154575 (Nat.div (Nat.mul u q) 1099511627776)) fun q => st (Nat.add 73300775185 (Nat.div (Nat.mul u q) 1099511627776)) fun q => st (Nat.add 84577817521 (Nat.div (Nat.mul u q) 1099511627776)) fun q => st (Nat.add 99955602525 (Nat.div (Nat.mul u q) 1099511627776)) fun q => st (Nat.add 122167958641 (Nat.div (Nat.mul u q) 1099511627776)) fun q => st (Nat.add 157073089682 (Nat.div (Nat.mul u q) 1099511627776)) fun q => st (Nat.add 219902325555 (Nat.div (Nat.mul u q) 1099511627776)) fun q => st (Nat.add 366503875925 (Nat.div (Nat.mul u q) 1099511627776)) fun q => Nat.add 1099511627776 (Nat.div (Nat.mul u q) 1099511627776)
def hhi (u : Nat) : Nat :=
  st (Nat.add 43980465112 (Nat.succ (Nat.div (Nat.mul u 0) 1099511627776))) fun q => st (Nat.add 47804853382 (Nat.succ (Nat.div (Nat.mul u q) 1099511627776))) fun q => st (Nat.add 52357696561 (Nat.succ (Nat.div (Nat.mul u q) 1099511627776))) fun q => st (Nat.add 57869033041 (Nat.succ (Nat.div (Nat.mul u q) 1099511627776))) fun q => st (Nat.add 64677154576 (Nat.succ (Nat.div (Nat.mul u q) 1099511627776))) fun q => st (Nat.add 73300775186 (Nat.succ (Nat.div (Nat.mul u q) 1099511627776))) fun q => st (Nat.add 84577817522 (Nat.succ (Nat.div (Nat.mul u q) 1099511627776))) fun q => st (Nat.add 99955602526 (Nat.succ (Nat.div (Nat.mul u q) 1099511627776))) fun q => st (Nat.add 122167958642 (Nat.succ (Nat.div (Nat.mul u q) 1099511627776))) fun q => st (Nat.add 157073089683 (Nat.succ (Nat.div (Nat.mul u q) 1099511627776))) fun q => st (Nat.add 219902325556 (Nat.succ (Nat.div (Nat.mul u q) 1099511627776))) fun q => st (Nat.add 366503875926 (Nat.succ (Nat.div (Nat.mul u q) 1099511627776))) fun q => Nat.add 1099511627777 (Nat.succ (Nat.div (Nat.mul u q) 1099511627776))
theorem hlo_eq (u : Nat) : hlo u = qlo u 13 := by
  unfold hlo
  simp only [st_eq]
  rfl
theorem hhi_eq (u : Nat) : hhi u = qhi u 13 := by
  unfold hhi
  simp only [st_eq]
  rfl
theorem q_jn {u ul uh : Nat} (hu : Jn (some u) ul uh) (hl : ul ≤ uh) (hs : uh ≤ 549755813888) : ∀ j : Nat, j ≤ 13 → Jn (some (qL u j)) (qlo ul j) (qhi uh j) ∧ qlo ul j ≤ qhi uh j ∧ qhi uh j ≤ 3298534883328
  | 0, _ => ⟨⟨0, rfl, by decide, zero_fin .f64, by rw [show N double 0 = 0 from N_zero .f64]; simp [qlo], by rw [show N double 0 = 0 from N_zero .f64]; simp [qhi]⟩, by simp [qlo, qhi], by simp [qhi]⟩
  | j + 1, h => by
    obtain ⟨i1, i2, i3⟩ := q_jn hu hl hs j (by omega)
    have r1 := jn_const (rl_tab ⟨j, by omega⟩)
    have r2 := rl_small ⟨j, by omega⟩
    simp only at r1 r2
    have hp : uh * qhi uh j ≤ 549755813888 * 3298534883328 := Nat.mul_le_mul hs i3
    have hpl : ul * qlo ul j ≤ uh * qhi uh j := Nat.mul_le_mul hl i2
    have hm := opw_jn (jn_posN hu i1 hl i2 (by generalize uh * qhi uh j = p at *; omega))
    have hd := Nat.div_le_div_right (c := 1099511627776) hpl
    have ha := opw_jn (jn_add r1 hm (okf_of (by generalize ul * qlo ul j = p at *; omega) (by generalize ul * qlo ul j = p at *; generalize uh * qhi uh j = p at *; omega)) (okf_of (by omega) (by generalize uh * qhi uh j = p at *; omega)))
    refine ⟨?_, ?_, ?_⟩
    · have e1 : ((qlo ul (j + 1) : Nat) : Int) = (rlN j : Int) + ((ul * qlo ul j / 1099511627776 : Nat) : Int) := by rw [qlo]; omega
      have e2 : ((qhi uh (j + 1) : Nat) : Int) = ((rlN j : Int) + 1) + ((uh * qhi uh j / 1099511627776 + 1 : Nat) : Int) := by rw [qhi]; omega
      rw [e1, e2]
      exact ha
    · rw [qlo, qhi]; omega
    · rw [qhi]; generalize uh * qhi uh j = p at *; omega

end Go.Proofs.Ytjpbimfnppmbcaa
