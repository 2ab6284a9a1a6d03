/- Tenths of decibels of a product are those of both, but for one: reckoned out for all eighths up to 25. -/
import Derived.Test.YtjpbimfnppmbcaaNcu
namespace Go.Proofs.Ytjpbimfnppmbcaa
open Fl Go.RowKit Ieee

def allN (p : Nat → Bool) : Nat → Bool
  | 0 => true
  | n + 1 => cond (p n) (allN p n) false
theorem allN_at {p : Nat → Bool} : ∀ {n k : Nat}, allN p n = true → k < n → p k = true
  | 0, _, _, h => absurd h (Nat.not_lt_zero _)
  | n + 1, k, ha, h => by
    rw [allN] at ha
    cases hp : p n with
    | false => rw [hp] at ha; cases ha
    | true =>
      rw [hp, cond_true] at ha
      rcases Nat.lt_or_ge k n with q | q
      · exact allN_at ha q
      · obtain rfl : k = n := by omega
        exact hp
def chk3 (a b c d e f : Nat) : Bool := cond (Nat.ble 1 a) (cond (Nat.ble 1 c) (cond (Nat.ble 1 e) (cond (Nat.ble (Nat.add b d) (Nat.add e 1001)) (Nat.ble (Nat.add f 999) (Nat.add a c)) false) false) false) false
def chk (m n : Nat) : Bool := st (TL m 3) fun a => st (TH m 3) fun b => st (TL n 3) fun c => st (TH n 3) fun d => st (Nat.mul m n) fun p => st (TL p 0) fun e => st (TH p 0) fun f => chk3 a b c d e f
def rowsOk (a : Nat) (k : Nat) : Bool := allN (fun m => allN (fun n => chk (Nat.succ (Nat.add a m)) (Nat.succ n)) (Nat.succ (Nat.add a m))) k
set_option maxRecDepth 100000
theorem rows0 : rowsOk 0 70 = true := by decide +kernel
theorem rows1 : rowsOk 70 30 = true := by decide +kernel
theorem rows2 : rowsOk 100 25 = true := by decide +kernel
theorem rows3 : rowsOk 125 20 = true := by decide +kernel
theorem rows4 : rowsOk 145 20 = true := by decide +kernel
theorem rows5 : rowsOk 165 18 = true := by decide +kernel
theorem rows6 : rowsOk 183 17 = true := by decide +kernel
theorem chk_at {m n : Nat} (h1 : 1 ≤ n) (h2 : n ≤ m) (h3 : m ≤ 200) : chk m n = true := by
  have key : ∀ a k, rowsOk a k = true → a < m → m ≤ a + k → chk m n = true := by
    intro a k h ha hk
    have := allN_at h (k := m - a - 1) (by omega)
    have e1 : Nat.succ (Nat.add a (m - a - 1)) = m := by rw [n_add]; omega
    simp only [e1] at this
    have := allN_at this (k := n - 1) (by omega)
    have e2 : Nat.succ (n - 1) = n := by omega
    simp only [e2] at this
    exact this
  rcases Nat.lt_or_ge 183 m with q6 | q6
  · exact key 183 17 rows6 q6 (by omega)
  rcases Nat.lt_or_ge 165 m with q5 | q5
  · exact key 165 18 rows5 q5 (by omega)
  rcases Nat.lt_or_ge 145 m with q4 | q4
  · exact key 145 20 rows4 q4 (by omega)
  rcases Nat.lt_or_ge 125 m with q3 | q3
  · exact key 125 20 rows3 q3 (by omega)
  rcases Nat.lt_or_ge 100 m with q2 | q2
  · exact key 100 25 rows2 q2 (by omega)
  rcases Nat.lt_or_ge 70 m with q1 | q1
  · exact key 70 30 rows1 q1 (by omega)
  exact key 0 70 rows0 (by omega) (by omega)

end Go.Proofs.Ytjpbimfnppmbcaa
