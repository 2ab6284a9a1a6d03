/- ReadDecimal: the walks of the reference. -/
import Derived.Test.YtcaceplnlfmejaaGreatDoorWt9
namespace Go.Proofs.YtcaceplnlfmejaaGreatDoor
open Go.RowKit
open Lib (itoa decDigits parseIntB)

def rdV (s : ByteArray) : Value := match rd s with
  | some n => .tuple #[.int .i64 n, .bool true]
  | none => .tuple #[.int .i64 0, .bool false]
def inB (n a b : Int) : Bool := decide (a ≤ n) && decide (n ≤ b)

theorem impl_withinB (n a b : Int) (w : World) : Calls Tryz.prog 53 #[.int .i64 n, .int .i64 a, .int .i64 b] w (fun e w' => e = .returned (.bool (inB n a b)) ∧ Below w.heap.size w w') := by
  by_cases h1 : a ≤ n
  · have h2 : inB n a b = decide (n ≤ b) := by simp [inB, h1]
    rw [h2]
    by_cases h3 : n ≤ b
    · go_enter Tryz.func53, Tryz.ntmps53
      go_wp2
      go_ret
      exact ⟨by simp [h3], Below.refl _ _⟩
    · go_enter Tryz.func53, Tryz.ntmps53
      go_wp2
      go_ret
      exact ⟨by simp [h3], Below.refl _ _⟩
  · have h2 : inB n a b = false := by simp [inB, h1]
    rw [h2]
    go_enter Tryz.func53, Tryz.ntmps53
    go_wp2
    go_ret
    exact ⟨rfl, Below.refl _ _⟩




/-- The last test of the reference. -/
theorem isDg_of (b : UInt8) (h1 : 48 ≤ (b.toNat : Int)) (h2 : (b.toNat : Int) ≤ 57) : isDg b = true := by simp [isDg]; omega
theorem isDg_no (b : UInt8) (h : (b.toNat : Int) < 48 ∨ 57 < (b.toNat : Int)) : isDg b = false := by simp [isDg]; omega
theorem str_ne {t s : ByteArray} (h : t ≠ s) : (t.toList == s.toList) = false := by
  rw [Lib.toList_data, Lib.toList_data]
  cases e : (t.data.toList == s.data.toList) with
  | false => rfl
  | true =>
    have := eq_of_beq e
    exact absurd (by cases t; cases s; simpa using this) h

end Go.Proofs.YtcaceplnlfmejaaGreatDoor
