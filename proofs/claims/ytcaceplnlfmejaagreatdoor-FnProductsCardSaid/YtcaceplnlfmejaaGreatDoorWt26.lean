/- Numbers in hexadecimal: plain laws; the library's small helpers at base 16. -/
import Derived.Test.YtcaceplnlfmejaaGreatDoorWk1
import Derived.Test.YtcaceplnlfmejaaGreatDoorWt17
namespace Go.Proofs.YtcaceplnlfmejaaGreatDoor
open Go.RowKit
open Lib (itoa decDigits parseIntB)

/-- A hexadecimal digit. -/
def hd (d : Nat) : Nat := if d < 10 then 48 + d else 87 + d
theorem hd_lt {d : Nat} (h : d < 16) : hd d < 256 := by unfold hd; split <;> omega
def hB (d : Nat) : UInt8 := UInt8.ofNat (hd d)
theorem hB_nat {d : Nat} (h : d < 16) : (hB d).toNat = hd d := by rw [hB, UInt8.toNat_ofNat']; have := hd_lt h; omega
/-- The last j hexadecimal digits of n. -/
def hx (n : Nat) : Nat → List UInt8
  | 0 => []
  | j + 1 => hB (n / 16 ^ j % 16) :: hx n j
theorem hx_len (n : Nat) : ∀ j, (hx n j).length = j
  | 0 => rfl
  | j + 1 => by rw [hx, List.length_cons, hx_len n j]
theorem hx_pad (n : Nat) (j : Nat) (h : n < 16 ^ j) : ∀ m, hx n (j + m) = List.replicate m 48 ++ hx n j
  | 0 => rfl
  | m + 1 => by
    have hp : 16 ^ j ≤ 16 ^ (j + m) := Nat.pow_le_pow_right (by decide) (by omega)
    have h0 : n / 16 ^ (j + m) % 16 = 0 := by rw [Nat.div_eq_of_lt (by omega)]
    rw [show j + (m + 1) = (j + m) + 1 by omega, hx, h0, hx_pad n j h m]; rfl
theorem pow16_8 : (16 : Nat) ^ 8 = 4294967296 := by decide
def tabB : ByteArray := ⟨#[48, 49, 50, 51, 52, 53, 54, 55, 56, 57, 97, 98, 99, 100, 101, 102, 103, 104, 105, 106, 107, 108, 109, 110, 111, 112, 113, 114, 115, 116, 117, 118, 119, 120, 121, 122]⟩
theorem tab_at : ∀ d : Fin 16, (tabB[d.1]'(by have := d.2; show d.1 < 36; omega)).toNat = hd d.1 := by decide +kernel
theorem and15_64 {m : Nat} (h : m < 2 ^ 64) : bits .and .u64 (m : Int) 15 = ((m % 16 : Nat) : Int) := by
  have h := (bits_nat .u64 64 (by decide) (fun n h0 h1 => by rw [IntKind.wrap_u64]; omega) m 15 (by omega) (by decide)).1
  have h2 : m &&& 15 = m % 16 := by
    rw [show (15 : Nat) = 2 ^ 4 - 1 by decide, Nat.and_two_pow_sub_one_eq_mod]
  rw [← h2]; exact h
/-- The library's table of trailing noughts, at 16. -/
def TzC (w : World) : Prop := w.cell? ⟨6, 15, none⟩ = some (.int .u8 4) ∧ 6 < w.heap.size
theorem TzC.later {w w' : World} (h : TzC w) (hb : Below w.heap.size w w') : TzC w' :=
  ⟨(hb.cell (p := ⟨6, 15, none⟩) h.2).trans h.1, Nat.lt_of_lt_of_le h.2 hb.size⟩

theorem tz64_16 (w : World) (h : TzC w) : Calls Tryz.prog 135 #[.int .u64 16] w (fun e w' => e = .returned (.int .i64 4) ∧ Below w.heap.size w w') := by
  have hc := h.1
  clear h
  have e1 : IntKind.u64.wrap (-16) = 18446744073709551600 := by decide
  have e2 : bits .and .u64 16 18446744073709551600 = 16 := by decide
  have e3 : IntKind.u64.wrap (16 * 285870213051353865) = 4573923408821661840 := by decide
  go_enter Tryz.func135, Tryz.ntmps135
  go_wp2
  go_ret
  exact ⟨rfl, Below.refl _ _⟩

theorem tz_16 (w : World) (h : TzC w) : Calls Tryz.prog 124 #[.int .u64 16] w (fun e w' => e = .returned (.int .i64 4) ∧ Below w.heap.size w w') := by
  have H := Lib.hid (tz64_16 w h)
  go_enter Tryz.func124, Tryz.ntmps124
  go_wp2_with fail
  refine H.out.mono ?_
  rintro e w1 ⟨rfl, hb⟩
  have HB := Lib.hid hb
  clear hb
  go_wp2
  go_ret
  exact ⟨rfl, HB.out⟩

theorem pow2_16 (w : World) : Calls Tryz.prog 123 #[.int .i64 16] w (fun e w' => e = .returned (.bool true) ∧ Below w.heap.size w w') := by
  have e1 : bits .and .i64 16 15 = 0 := by decide
  go_enter Tryz.func123, Tryz.ntmps123
  go_wp2
  go_ret
  exact ⟨rfl, Below.refl _ _⟩

end Go.Proofs.YtcaceplnlfmejaaGreatDoor
