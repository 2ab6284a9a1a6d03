/- The eight hexadecimal digits of a number. -/
import Derived.Test.YtcaceplnlfmejaaGreatDoorWt27
import Derived.Test.YtcaceplnlfmejaaGreatDoorWt21
import Derived.Test.YtcaceplnlfmejaaGreatDoorSrep
namespace Go.Proofs.YtcaceplnlfmejaaGreatDoor
open Fl Go.RowKit
open Lib (itoa decDigits parseIntB)

/-- The bits of a number, as a natural number. -/
def nb (b : Nat) : Nat := (bt b).toNat
theorem nb_bt (b : Nat) : bt b = ((nb b : Nat) : Int) := by
  have : 0 ≤ bt b := by unfold bt; split <;> omega
  unfold nb; omega
theorem nb_lt {b : Nat} (h : W32 b) : nb b < 4294967296 := by
  unfold nb bt
  unfold W32 at h
  split <;> omega
def hexB (n : Nat) : ByteArray := ⟨(hx n 8).toArray⟩
theorem hexB_size (n : Nat) : (hexB n).size = 8 := by simp [hexB, ByteArray.size, hx_len]
theorem rep_one (c : Nat) : Lib.repeatL [48] c = List.replicate c 48 := by
  induction c with
  | zero => rfl
  | succ c ih => simp [Lib.repeatL, List.replicate_succ] at ih ⊢; try exact ih
theorem hex_join (n j c : Nat) (h : n < 16 ^ j) (hc : j + c = 8) : ((⟨(Lib.repeatL [48] c).toArray⟩ : ByteArray) ++ ⟨(hx n j).toArray⟩) = hexB n := by
  have e : Lib.repeatL [48] c = List.replicate c 48 := rep_one c
  rw [e, hexB, ← hc, hx_pad n j h c]
  apply ByteArray.ext
  simp
def tab6 : ByteArray := ⟨#[48, 49, 50, 51, 52, 53, 54, 55, 56, 57, 97, 98, 99, 100, 101, 102]⟩
theorem tab6_at : ∀ d : Fin 16, (tab6[d.1]'(by have := d.2; show d.1 < 16; omega)).toNat = hd d.1 := by decide +kernel
theorem and15_i {m : Nat} (h : m < 4294967296) : bits .and .i64 (m : Int) 15 = ((m % 16 : Nat) : Int) := by
  have h := (bits_nat .i64 33 (by decide) (fun n h0 h1 => by rw [IntKind.wrap_i64]; omega) m 15 (by omega) (by decide)).1
  have h2 : m &&& 15 = m % 16 := by
    rw [show (15 : Nat) = 2 ^ 4 - 1 by decide, Nat.and_two_pow_sub_one_eq_mod]
  rw [← h2]; exact h

theorem impl_hexOf (w : World) (b : Nat) (hb : W32 b) (ht : TzC w) : Calls Tryz.prog 46 #[.float .f32 b] w (fun e w' => e = .returned (.string (hexB (nb b))) ∧ Below w.heap.size w w') := by
  have HT := Lib.hid ht
  have HB := Lib.hid (impl_BitsOf b hb)
  have hn := nb_lt hb
  rw [nb_bt b] at HB
  generalize nb b = n at *
  have HF := Lib.hid (fun w h => format_16 w n hn h)
  clear ht hn hb
  go_enter Tryz.func46, Tryz.ntmps46
  go_wp2_with fail
  refine (HB.out _).mono ?_
  rintro e w1 ⟨rfl, k, hw⟩
  have B1 : Hid (Below w.heap.size w w1) := Lib.hid (by rw [hw]; exact below_dn4 (Below.refl _ _) k)
  clear hw
  go_wp2_with fail
  refine (HF.out _ (HT.out.later B1.out)).mono ?_
  rintro e w2 ⟨j, rfl, h1, h8, hj, hb⟩
  have B2 := Lib.hid (B1.out.trans (hb.mono B1.out.size))
  obtain ⟨c, hc⟩ : ∃ c, j + c = 8 := ⟨8 - j, by omega⟩
  have HJ := Lib.hid (hex_join n j c hj hc)
  have hsz : (⟨(hx n j).toArray⟩ : ByteArray).size = j := by simp [ByteArray.size, hx_len]
  have HR := Lib.hid (fun w => Tryz.strings_Repeat ⟨#[48]⟩ c w (by omega) (by show 1 * c ≤ _; omega))
  have hci : (8 : Int) - (j : Int) = (c : Int) := by omega
  have hj8 : (j : Int) ≤ 8 := by omega
  have hc8 : (c : Int) ≤ 8 := by omega
  clear hb B1 h1 h8 hj hc HF
  generalize (⟨(hx n j).toArray⟩ : ByteArray) = t at *
  go_wp2_with fail
  refine (HR.out _).mono ?_
  rintro e w3 ⟨rfl, hb⟩
  have B3 := Lib.hid (B2.out.trans (hb.mono B2.out.size))
  have hsz2 : (⟨(Lib.repeatL [48] c).toArray⟩ : ByteArray).size = c := by rw [rep_one]; simp [ByteArray.size]
  clear hb B2 HR
  have HJ' : Hid (((⟨(Lib.repeatL [48] c).toArray⟩ : ByteArray) ++ t) = hexB n) := HJ
  change Hid _ at HJ'
  generalize (⟨(Lib.repeatL [48] c).toArray⟩ : ByteArray) = r at *
  go_wp2
  go_ret
  exact ⟨by rw [← HJ'.out]; first | done | rfl, B3.out⟩

theorem infoB : (Tryz.prog.info? 5).map (fun i => (i.zero, i.size, i.bytes)) = some (some (.int .u8 0), 1, 1) := by kernel_rfl
theorem hx8_len (n : Nat) : (hx n 8).length = 8 := hx_len n 8

end Go.Proofs.YtcaceplnlfmejaaGreatDoor
