/- Numbers in decimal: the reference's loop over the digits. -/
import Derived.Test.YtcaceplnlfmejaaGreatDoorWt1
namespace Go.Proofs.YtcaceplnlfmejaaGreatDoor
open Go.RowKit

theorem dgs_shift (m : Nat) : ∀ j, dgs m (j + 1) = dgs (m / 10) j ++ [((48 + m % 10 : Nat) : Int)]
  | 0 => by simp [dgs]
  | j + 1 => by
    have ih := dgs_shift m j
    have e : m / 10 ^ (j + 1) = m / 10 / 10 ^ j := by rw [Nat.div_div_eq_div_mul, Nat.pow_succ, Nat.mul_comm]
    rw [dgs, ih, dgs, e]
    rfl
theorem digits_of (m : Nat) : ∀ j, 1 ≤ j → m < 10 ^ j → (j = 1 ∨ 10 ^ (j - 1) ≤ m) → dgs m j = (Lib.decDigits m).map fun c : UInt8 => (c.toNat : Int)
  | 0, h, _, _ => by omega
  | 1, _, h, _ => by
    have h' : m < 10 := by simpa using h
    rw [Lib.decDigits, dif_pos h']
    simp [dgs]
    omega
  | j + 2, _, h, h2 => by
    have hm : 10 ^ (j + 1) ≤ m := by
      rcases h2 with h2 | h2
      · omega
      · simpa using h2
    have h10 : ¬ m < 10 := by
      have : 10 ^ 1 ≤ 10 ^ (j + 1) := Nat.pow_le_pow_right (by decide) (by omega)
      omega
    rw [Lib.decDigits, dif_neg h10, dgs_shift, digits_of (m / 10) (j + 1) (by omega) ?_ ?_, List.map_append]
    · congr 1
      simp
      omega
    · rw [Nat.div_lt_iff_lt_mul (by decide)]
      rw [Nat.pow_succ] at h
      exact h
    · by_cases hj : j = 0
      · left; omega
      · right
        rw [Nat.le_div_iff_mul_le (by decide), ← Nat.pow_succ]
        rw [show (j + 1 - 1).succ = j + 1 by omega]
        exact hm

theorem w_id {y : Int} (h0 : -9223372036854775808 ≤ y) (h1 : y ≤ 9223372036854775807) : wrap64 y = y := by unfold wrap64; omega
theorem w_mod {e : Nat} (h : e < 10) : (48 + (e : Int)) % 256 = 48 + e := by omega
theorem get_ints (l : List Int) (i : Nat) (h : i < l.length) : (l.map (Value.int .u8))[i]? = some (.int .u8 (l.getD i 0)) := by
  rw [List.getElem?_map, List.getElem?_eq_getElem h]
  simp [List.getD, h]
theorem str_ints (l : List UInt8) : strOfNums (l.map fun c : UInt8 => (c.toNat : Int)) = ⟨l.toArray⟩ := by
  unfold strOfNums
  rw [List.map_map, show ((fun n : Int => UInt8.ofNat n.toNat) ∘ fun c : UInt8 => (c.toNat : Int)) = id by funext c; simp, List.map_id]
theorem ints_ok (l : List Int) : ∀ u ∈ l.map (Value.int .u8), u.oneCell' = true := fun u hu => by
  rw [List.mem_map] at hu
  obtain ⟨c, _, rfl⟩ := hu
  rfl




end Go.Proofs.YtcaceplnlfmejaaGreatDoor
