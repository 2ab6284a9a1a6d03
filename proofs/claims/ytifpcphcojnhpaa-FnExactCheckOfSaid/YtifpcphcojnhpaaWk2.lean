/- The check number of a text: the walks of the reference and of the program. -/
import Derived.Test.YtifpcphcojnhpaaWk1
namespace Go.Proofs.Ytifpcphcojnhpaa
open Fl Go.RowKit

/-- The check number of the first k bytes. -/
def ck (s : ByteArray) (n : Int) : Nat → Int
  | 0 => n
  | k + 1 => (761 * ck s n k + ((s[k]?.getD 0).toNat : Int) + 83) % 65003
theorem ck_bd (s : ByteArray) (n : Int) (h0 : 0 ≤ n) (h1 : n ≤ 65002) (k : Nat) : 0 ≤ ck s n k ∧ ck s n k ≤ 65002 := by
  cases k with
  | zero => exact ⟨h0, h1⟩
  | succ k => unfold ck; omega
theorem ck_succ (s : ByteArray) (n : Int) (k : Nat) (h : k < s.size) : ck s n (k + 1) = (761 * ck s n k + (s[k].toNat : Int) + 83) % 65003 := by
  have : s[k]? = some s[k] := by simp [h]
  rw [ck, this]; rfl

theorem spec_l01Check (n : Int) (s : ByteArray) (h0 : 0 ≤ n) (h1 : n ≤ 65002) (hs : s.size ≤ maxLen) (w : World) : Calls Try.prog 31 #[.int .i64 n, .string s] w (Ret (.int .i64 (ck s n s.size)) w) := by
  unfold maxLen at hs
  have hbd := Lib.hid (ck_bd s n h0 h1)
  have hsu := Lib.hid (ck_succ s n)
  clear h0 h1
  go_enter Try.func31, Try.ntmps31
  go_wp2
  go_loop [0, 5] (fun n' i => ∃ k : Nat, k ≤ s.size ∧ i = .int .i64 k ∧ n' = .int .i64 (ck s n k)) (fun _ i => s.size - (intOf i).toNat)
  case atStart => exact ⟨0, Nat.zero_le _, rfl, rfl⟩
  case round =>
    obtain ⟨k, hk, rfl, rfl⟩ := hrel
    obtain ⟨b1, b2⟩ := hbd.out k
    have hs1 := hsu.out k
    have HS := Lib.hid hs1; clear hs1
    generalize hc : ck s n k = c at *
    have HC := Lib.hid hc; clear hc
    by_cases hlt : k < s.size
    · have hby : (s[k].toNat : Int) ≤ 255 := by have := s[k].toNat_lt; omega
      have hby0 : 0 ≤ (s[k].toNat : Int) := by omega
      go_wp2
      go_round
      case rel => exact ⟨k + 1, by omega, by go_num, by rw [HS.out hlt]⟩
      case measure => simp [intOf]; omega
    · go_wp2
      go_ret
      have : k = s.size := by omega
      subst this
      exact .mk' 0 (int_congr HC.out.symm) rfl

theorem spec_CheckOf_yes (n : Int) (s : ByteArray) (h0 : 0 ≤ n) (h1 : n ≤ 65002) (hs : s.size ≤ maxLen) (w : World) : Calls Try.prog 21 #[.int .i64 n, .string s] w (Ret (.tuple #[.int .i64 (ck s n s.size), .bool true]) w) := by
  go_enter Try.func21, Try.ntmps21
  go_wp2_with (first | (go_at_call 30; refine (spec_l00In_yes _ _ _ h0 (by omega) _).mono ?_; rintro e w' ⟨rfl, m, rfl⟩) | (go_at_call 31; refine (spec_l01Check _ _ h0 h1 hs _).mono ?_; rintro e w' ⟨rfl, m', rfl⟩))
  go_ret2
  exact .mk' _ rfl rfl
theorem spec_CheckOf_no (n : Int) (s : ByteArray) (h : n < 0 ∨ 65002 < n) (w : World) : Calls Try.prog 21 #[.int .i64 n, .string s] w (Ret (.tuple #[.int .i64 0, .bool false]) w) := by
  go_enter Try.func21, Try.ntmps21
  go_wp2_with (go_at_call 30; refine (spec_l00In_no _ _ _ h _).mono ?_; rintro e w' ⟨rfl, m, rfl⟩)
  go_ret2
  exact .mk' _ rfl rfl

theorem impl_CheckOf_yes (n : Int) (s : ByteArray) (h0 : 0 ≤ n) (h1 : n ≤ 65002) (hs : s.size ≤ maxLen) (w : World) : Calls Try.prog 22 #[.int .i64 n, .string s] w (Ret (.tuple #[.int .i64 (ck s n s.size), .bool true]) w) := by
  unfold maxLen at hs
  have hbd := Lib.hid (ck_bd s n h0 h1)
  have hsu := Lib.hid (ck_succ s n)
  go_enter Try.func22, Try.ntmps22
  go_wp2_with (go_at_call 32; refine (impl_within_yes _ _ _ h0 (by omega) _).mono ?_; rintro e w' ⟨rfl, m, rfl⟩)
  go_loop [0, 12] (fun n' i => ∃ k : Nat, k ≤ s.size ∧ i = .int .i64 k ∧ n' = .int .i64 (ck s n k)) (fun _ i => s.size - (intOf i).toNat)
  case atStart => exact ⟨0, Nat.zero_le _, rfl, rfl⟩
  case round =>
    obtain ⟨k, hk, rfl, rfl⟩ := hrel
    obtain ⟨b1, b2⟩ := hbd.out k
    have hs1 := hsu.out k
    have HS := Lib.hid hs1; clear hs1
    generalize hc : ck s n k = c at *
    have HC := Lib.hid hc; clear hc
    by_cases hlt : k < s.size
    · have hby : (s[k].toNat : Int) ≤ 255 := by have := s[k].toNat_lt; omega
      have hby0 : 0 ≤ (s[k].toNat : Int) := by omega
      go_wp2
      go_round
      case rel => exact ⟨k + 1, by omega, by go_num, by rw [HS.out hlt]⟩
      case measure => simp [intOf]; omega
    · go_wp2
      go_ret2
      have : k = s.size := by omega
      subst this
      exact .mk' m (by rw [HC.out]; rfl) rfl
theorem impl_CheckOf_no (n : Int) (s : ByteArray) (h : n < 0 ∨ 65002 < n) (w : World) : Calls Try.prog 22 #[.int .i64 n, .string s] w (Ret (.tuple #[.int .i64 0, .bool false]) w) := by
  go_enter Try.func22, Try.ntmps22
  go_wp2_with (go_at_call 32; refine (impl_within_no _ _ _ h _).mono ?_; rintro e w' ⟨rfl, m, rfl⟩)
  go_ret2
  exact .mk' _ rfl rfl

theorem law_CheckOf (n : Int) (s : ByteArray) (hs : s.size ≤ maxLen) (w : World) : Calls Try.prog 9 #[.int .i64 n, .string s] w (Ret (.bool true) w) := by
  have hm := hs
  unfold maxLen at hm
  by_cases hlong : 1048576 < s.size
  · go_enter Try.func9, Try.ntmps9
    go_wp2
    go_ret
    exact .mk' 0 rfl rfl
  · by_cases h : 0 ≤ n ∧ n ≤ 65002
    · obtain ⟨h0, h1⟩ := h
      go_enter Try.func9, Try.ntmps9
      go_wp2_with (first | (go_at_call 21; refine (spec_CheckOf_yes _ _ h0 h1 hs _).mono ?_; rintro e w' ⟨rfl, m, rfl⟩) | (go_at_call 22; refine (impl_CheckOf_yes _ _ h0 h1 hs _).mono ?_; rintro e w' ⟨rfl, m', rfl⟩))
      go_ret
      exact .mk' _ rfl rfl
    · have h' : n < 0 ∨ 65002 < n := by omega
      have H := Lib.hid h'; clear h h'
      go_enter Try.func9, Try.ntmps9
      go_wp2_with (first | (go_at_call 21; refine (spec_CheckOf_no _ _ H.out _).mono ?_; rintro e w' ⟨rfl, m, rfl⟩) | (go_at_call 22; refine (impl_CheckOf_no _ _ H.out _).mono ?_; rintro e w' ⟨rfl, m', rfl⟩))
      go_ret
      exact .mk' _ rfl rfl

end Go.Proofs.Ytifpcphcojnhpaa
