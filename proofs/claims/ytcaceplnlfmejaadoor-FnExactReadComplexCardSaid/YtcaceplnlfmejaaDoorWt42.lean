/- Eight hexadecimal digits: the reference's reader. -/
import Derived.Test.YtcaceplnlfmejaaDoorWt41
namespace Go.Proofs.YtcaceplnlfmejaaDoor
open Fl Go.RowKit

theorem zero32 : W32 0 := by unfold W32; omega
set_option maxRecDepth 20000 in
theorem spec_l01Digits (x : ByteArray) (w : World) (H8 : Hid (x.size = 8)) : Calls Tryd.prog 79 #[.string x] w (RH x w) := by
  have HFR := Lib.hid (fun (n : Nat) hn w => l01From4 n hn w)
  have HBT := Lib.hid (fun (n : Nat) hn w => spec_l01Bits n hn w)
  have h8i : (x.size : Int) = 8 := by have := H8.out; omega
  go_enter Tryd.func79, Tryd.ntmps79
  go_wp2_with fail
  go_loopw [4, 5] (fun vn vj wr' => ∃ (j n : Nat) (a : Int), j ≤ 8 ∧ vj = .int .i64 j ∧ vn = .int .i64 a ∧ Hid (a = (n : Int) ∧ hacc (x.data.toList.take j) 0 = some n) ∧ wr' = w) (fun _ vj _ => 8 - (RowKit.intOf vj).toNat)
  case atStart => exact ⟨0, 0, 0, by omega, rfl, rfl, Lib.hid ⟨rfl, rfl⟩, rfl⟩
  case round =>
    obtain ⟨j, n, a, hj, rfl, rfl, HN, rfl⟩ := hrel
    have a0 : 0 ≤ a := by have := HN.out.1; omega
    by_cases hj8 : j < 8
    · have hjx : j < x.size := by have := H8.out; omega
      have HBX := Lib.hid (at_byte x j hjx)
      obtain ⟨b8, hb8⟩ : ∃ b8, x[j] = b8 := ⟨_, rfl⟩
      rw [hb8] at HBX
      obtain ⟨c8, hc8⟩ : ∃ c8 : Int, (b8.toNat : Int) = c8 := ⟨_, rfl⟩
      have c0 : 0 ≤ c8 := by omega
      have c1 : c8 ≤ 255 := by have := b8.toNat_lt; omega
      have HC8 := Lib.hid hc8
      have a1 : a ≤ 268435455 := by
        have h1 := hacc_lt _ _ HN.out.2
        have h2 : (x.data.toList.take j).length ≤ 7 := by simp; omega
        have h3 : 16 ^ (x.data.toList.take j).length ≤ 16 ^ 7 := Nat.pow_le_pow_right (by decide) h2
        have h4 : (16 : Nat) ^ 7 = 268435456 := by decide
        have := HN.out.1
        omega
      rcases (by omega : c8 < 48 ∨ (48 ≤ c8 ∧ c8 ≤ 57) ∨ (57 < c8 ∧ c8 < 97) ∨ (97 ≤ c8 ∧ c8 ≤ 102) ∨ 102 < c8) with q | ⟨q1, q2⟩ | ⟨q1, q2⟩ | ⟨q1, q2⟩ | q
      · have HZ := Lib.hid (rh_byte HBX.out (by have := HC8.out; rw [hval, if_neg (by omega), if_neg (by omega)]))
        go_wp2
        go_ret2
        exact RH.no zero32 HZ.out (Below.refl _ _)
      · obtain ⟨d, hd⟩ : ∃ d, b8.toNat - 48 = d := ⟨_, rfl⟩
        have HDV : Hid (hval b8 = some d) := Lib.hid (by have := HC8.out; rw [hval, if_pos (by omega), hd])
        have HDN : Hid (c8 - 48 = (d : Int)) := Lib.hid (by have := HC8.out; omega)
        clear hd
        have HN2 : Hid (16 * a + (c8 - 48) = ((16 * n + d : Nat) : Int) ∧ hacc (x.data.toList.take (j + 1)) 0 = some (16 * n + d)) := Lib.hid (by
          have h1 := HN.out.1; have h2 := HDN.out
          exact ⟨by omega, hacc_step HN.out.2 HBX.out HDV.out⟩)
        clear HN
        go_wp2
        go_roundw
        case rel => exact ⟨j + 1, 16 * n + d, 16 * a + (c8 - 48), by omega, by go_num, rfl, HN2, trivial⟩
        case measure => simp [RowKit.intOf]; omega
      · have HZ := Lib.hid (rh_byte HBX.out (by have := HC8.out; rw [hval, if_neg (by omega), if_neg (by omega)]))
        go_wp2
        go_ret2
        exact RH.no zero32 HZ.out (Below.refl _ _)
      · obtain ⟨d, hd⟩ : ∃ d, b8.toNat - 87 = d := ⟨_, rfl⟩
        have HDV : Hid (hval b8 = some d) := Lib.hid (by have := HC8.out; rw [hval, if_neg (by omega), if_pos (by omega), hd])
        have HDN : Hid (c8 - 97 + 10 = (d : Int)) := Lib.hid (by have := HC8.out; omega)
        clear hd
        have HN2 : Hid (16 * a + (c8 - 97 + 10) = ((16 * n + d : Nat) : Int) ∧ hacc (x.data.toList.take (j + 1)) 0 = some (16 * n + d)) := Lib.hid (by
          have h1 := HN.out.1; have h2 := HDN.out
          exact ⟨by omega, hacc_step HN.out.2 HBX.out HDV.out⟩)
        clear HN
        go_wp2
        go_roundw
        case rel => exact ⟨j + 1, 16 * n + d, 16 * a + (c8 - 97 + 10), by omega, by go_num, rfl, HN2, trivial⟩
        case measure => simp [RowKit.intOf]; omega
      · have HZ := Lib.hid (rh_byte HBX.out (by have := HC8.out; rw [hval, if_neg (by omega), if_neg (by omega)]))
        go_wp2
        go_ret2
        exact RH.no zero32 HZ.out (Below.refl _ _)
    · obtain rfl : j = 8 := by omega
      have hfull : hacc x.data.toList 0 = some n := by
        have := HN.out.2
        rwa [List.take_of_length_le (by have := H8.out; simp; omega)] at this
      have hwn : W32 n := by
        have h1 := hacc_lt _ _ hfull
        have h2 : x.data.toList.length = 8 := by have := H8.out; simpa using this
        rw [h2, pow16_8] at h1
        exact h1
      obtain rfl : a = (n : Int) := HN.out.1
      have HW := Lib.hid hwn
      have HFX := Lib.hid (HFR.out n hwn)
      have HBB := Lib.hid (HBT.out n hwn)
      have hbe := nb_bt n
      rw [hbe] at HBB
      have HRH : Hid (rh x = if nb n = n then some n else none) := Lib.hid (rh_full H8.out hfull)
      have hni : (n : Int) ≤ 4294967295 := by have := hwn.le; omega
      clear hfull hwn HN hbe
      go_wp2_with fail
      refine (HFX.out _).mono ?_
      rintro e w2 ⟨rfl, q0, hw⟩
      have HB2 : Hid (Below wr.heap.size wr w2) := Lib.hid (by rw [hw]; exact below_dn4 (Below.refl _ _) q0)
      have hsz2 := HB2.out.size
      clear hw HFX
      go_wp2_with fail
      refine (HBB.out _).mono ?_
      rintro e w3 ⟨rfl, q0, hw⟩
      have HB3 : Hid (Below wr.heap.size wr w3) := Lib.hid (by rw [hw]; exact below_dn4 HB2.out q0)
      clear hw HB2 HBB
      by_cases hnn : nb n = n
      · have HZ : Hid (rh x = some n) := Lib.hid (by rw [HRH.out, if_pos hnn])
        have hnn2 : ((nb n : Int) != (n : Int)) = false := by rw [hnn]; simp
        clear hnn HRH
        generalize nb n = n' at *
        go_wp2
        go_ret2
        exact RH.yes HW.out HZ.out HB3.out
      · have HZ : Hid (rh x = none) := Lib.hid (by rw [HRH.out, if_neg hnn])
        have hnn2 : ((nb n : Int) != (n : Int)) = true := by simp; omega
        clear hnn HRH
        generalize nb n = n' at *
        go_wp2
        go_ret2
        exact RH.no zero32 HZ.out HB3.out

end Go.Proofs.YtcaceplnlfmejaaDoor
