/- Tenths of decibels of a product: the law. -/
import Derived.Test.YtjpbimfnppmbcaaNcv
namespace Go.Proofs.Ytjpbimfnppmbcaa
open Fl Go.RowKit Ieee

theorem chk3_out {a b c d e f : Nat} (h : chk3 a b c d e f = true) : 1 ≤ a ∧ 1 ≤ c ∧ 1 ≤ e ∧ b + d ≤ e + 1001 ∧ f + 999 ≤ a + c := by
  unfold chk3 at h
  have key : ∀ {p : Bool} {x y : Nat}, cond (Nat.ble x y) p false = true → x ≤ y ∧ p = true := by
    intro p x y h
    cases hb : Nat.ble x y with
    | false => rw [hb] at h; cases h
    | true => rw [hb] at h; exact ⟨Nat.le_of_ble_eq_true hb, h⟩
  obtain ⟨h1, h⟩ := key h
  obtain ⟨h2, h⟩ := key h
  obtain ⟨h3, h⟩ := key h
  obtain ⟨h4, h⟩ := key h
  exact ⟨h1, h2, h3, by rw [n_add, n_add] at h4; exact h4, by have := Nat.le_of_ble_eq_true h; rw [n_add, n_add] at this; exact this⟩
theorem chk_out {m n : Nat} (h : chk m n = true) : 1 ≤ TL m 3 ∧ 1 ≤ TL n 3 ∧ 1 ≤ TL (m * n) 0 ∧ TH m 3 + TH n 3 ≤ TL (m * n) 0 + 1001 ∧ TH (m * n) 0 + 999 ≤ TL m 3 + TL n 3 := by
  unfold chk at h
  rw [st_eq, st_eq, st_eq, st_eq, st_eq, st_eq, st_eq, n_mul] at h
  exact chk3_out h
/-- The word that is n / 2^s. -/
def IsQ (w n s : Nat) : Prop := notPos w = false ∧ N single w * 2 ^ s = n * U single
theorem ten_8 {w n : Nat} (h : IsQ w n 3) (h1 : 1 ≤ n) (h2 : n < 65536) : (1 ≤ TL n 3 → (TL n 3 : Int) - 1000 ≤ tenI w) ∧ tenI w ≤ (TH n 3 : Int) - 1000 := ten_bd (s := 3) h.1 h1 h2 (by decide) h.2
theorem ten_64 {w n : Nat} (h : IsQ w n 6) (h1 : 1 ≤ n) (h2 : n < 65536) : (1 ≤ TL n 0 → (TL n 0 : Int) - 1000 ≤ tenI w) ∧ tenI w ≤ (TH n 0 : Int) - 1000 := ten_bd (s := 6) h.1 h1 h2 (by decide) h.2
theorem sum_up {a b c d e f : Nat} {x y z : Int} (hc : 1 ≤ a ∧ 1 ≤ c ∧ 1 ≤ e ∧ b + d ≤ e + 1001 ∧ f + 999 ≤ a + c) (hx : (1 ≤ a → (a : Int) - 1000 ≤ x) ∧ x ≤ (b : Int) - 1000) (hy : (1 ≤ c → (c : Int) - 1000 ≤ y) ∧ y ≤ (d : Int) - 1000) (hz : (1 ≤ e → (e : Int) - 1000 ≤ z) ∧ z ≤ (f : Int) - 1000) : x + y - z ≤ 1 ∧ z - x - y ≤ 1 := by
  have h1 := hx.1 hc.1
  have h2 := hy.1 hc.2.1
  have h3 := hz.1 hc.2.2.1
  omega
theorem mn_lt {m n : Nat} (h1 : 1 ≤ n) (h2 : 1 ≤ m) (h3 : m ≤ 200) (h4 : n ≤ 200) : 1 ≤ m * n ∧ m * n < 65536 := by
  have hp1 : 1 * 1 ≤ m * n := Nat.mul_le_mul h2 h1
  have hp2 := Nat.mul_le_mul h3 h4
  exact ⟨hp1, by omega⟩
theorem ten_half {x y z m n : Nat} (h1 : 1 ≤ n) (h2 : n ≤ m) (h3 : m ≤ 200) (hx : IsQ x m 3) (hy : IsQ y n 3) (hz : IsQ z (m * n) 6) : tenI x + tenI y - tenI z ≤ 1 ∧ tenI z - tenI x - tenI y ≤ 1 :=
  sum_up (chk_out (chk_at h1 h2 h3)) (ten_8 hx (Nat.le_trans h1 h2) (Nat.lt_of_le_of_lt h3 (by decide))) (ten_8 hy h1 (Nat.lt_of_le_of_lt (Nat.le_trans h2 h3) (by decide)))
    (ten_64 hz (mn_lt h1 (Nat.le_trans h1 h2) h3 (Nat.le_trans h2 h3)).1 (mn_lt h1 (Nat.le_trans h1 h2) h3 (Nat.le_trans h2 h3)).2)
theorem ten_law {x y z m n : Nat} (h1 : 1 ≤ n) (h2 : 1 ≤ m) (h3 : m ≤ 200) (h4 : n ≤ 200) (hx : IsQ x m 3) (hy : IsQ y n 3) (hz : IsQ z (m * n) 6) : tenI x + tenI y - tenI z ≤ 1 ∧ tenI z - tenI x - tenI y ≤ 1 := by
  rcases Nat.le_total n m with q | q
  · exact ten_half h1 q h3 hx hy hz
  · rw [Nat.mul_comm] at hz
    have := ten_half h2 q h4 hy hx hz
    generalize tenI x = a at *
    generalize tenI y = b at *
    generalize tenI z = c at *
    omega
theorem ten_one : notPos 1065353216 = false ∧ tenI 1065353216 = 0 := by decide +kernel

end Go.Proofs.Ytjpbimfnppmbcaa
