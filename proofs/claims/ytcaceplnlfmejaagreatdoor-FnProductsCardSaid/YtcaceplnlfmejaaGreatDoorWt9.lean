/- Numbers in decimal, read back: plain laws. -/
import Derived.Test.YtcaceplnlfmejaaGreatDoorWt3
import Derived.Lib.ParseIntBCases
import Derived.Lib.ItoaMem
namespace Go.Proofs.YtcaceplnlfmejaaGreatDoor
open Go.RowKit Go.Lib

def isDg (b : UInt8) : Bool := decide (48 ≤ (b.toNat : Int)) && decide ((b.toNat : Int) ≤ 57)
/-- The number of the digits, whatever stands between. -/
def dstep (n : Int) (b : UInt8) : Int := if isDg b then 10 * n + ((b.toNat : Int) - 48) else n
def df (s : ByteArray) : Nat → Int
  | 0 => 0
  | k + 1 => dstep (df s k) (s[k]?.getD 0)
theorem df_bd (s : ByteArray) : ∀ k, 0 ≤ df s k ∧ df s k < 10 ^ k
  | 0 => by simp [df]
  | k + 1 => by
    have ih := df_bd s k
    have h0 : (10 : Int) ^ (k + 1) = 10 ^ k * 10 := Int.pow_succ _ _
    rw [df, dstep, h0]
    split
    · rename_i h
      simp [isDg] at h
      omega
    · omega
theorem df_le (s : ByteArray) (k : Nat) (h : k ≤ 17) : 0 ≤ df s k ∧ df s k ≤ 99999999999999999 := by
  have := df_bd s k
  have h1 : (10 : Int) ^ k ≤ 10 ^ 17 := by
    have := Nat.pow_le_pow_right (show 0 < 10 by decide) h
    exact_mod_cast this
  have h2 : (10 : Int) ^ 17 = 100000000000000000 := by decide
  omega
theorem df_yes (s : ByteArray) (k : Nat) (h : k < s.size) (hd : isDg s[k] = true) : df s (k + 1) = 10 * df s k + ((s[k].toNat : Int) - 48) := by
  have : s[k]? = some s[k] := by simp [h]
  rw [df, this, dstep, Option.getD_some, if_pos hd]
theorem df_no (s : ByteArray) (k : Nat) (h : k < s.size) (hd : isDg s[k] = false) : df s (k + 1) = df s k := by
  have : s[k]? = some s[k] := by simp [h]
  rw [df, this, dstep, Option.getD_some, if_neg (by simp [hd])]
theorem df_take (s : ByteArray) : ∀ k, k ≤ s.size → df s k = (s.data.toList.take k).foldl dstep 0
  | 0, _ => rfl
  | k + 1, h => by
    have hk : s.data.toList[k]? = some s[k] := by
      rw [Array.getElem?_toList]
      exact Array.getElem?_eq_getElem (xs := s.data) (i := k) h
    have : s[k]? = some s[k] := by simp [show k < s.size by omega]
    rw [df, this, df_take s k (by omega), List.take_add_one, hk, List.foldl_append]; rfl
theorem df_all (s : ByteArray) : df s s.size = s.data.toList.foldl dstep 0 := by
  rw [df_take s s.size (Nat.le_refl _), List.take_of_length_le (by simp)]

theorem dg_toNat (u : Nat) (h : u < 10) : (UInt8.ofNat (48 + u)).toNat = 48 + u := by
  rw [UInt8.toNat_ofNat']; omega
theorem dstep_dg (n : Int) (u : Nat) (h : u < 10) : dstep n (UInt8.ofNat (48 + u)) = 10 * n + u := by
  rw [dstep, if_pos (by simp [isDg]; omega), dg_toNat u h]; omega
theorem fold_dec (u : Nat) : (decDigits u).foldl dstep 0 = u := by
  induction u using Nat.strongRecOn with
  | _ u ih =>
    rw [decDigits]
    split
    · rename_i h
      rw [List.foldl_cons, List.foldl_nil, dstep_dg 0 u h]; omega
    · rename_i h
      rw [List.foldl_append, ih (u / 10) (by omega), List.foldl_cons, List.foldl_nil, dstep_dg _ _ (by omega)]; omega
theorem dec_head (u : Nat) : ∃ b r, decDigits u = b :: r ∧ 48 ≤ b.toNat ∧ b.toNat ≤ 57 := by
  induction u using Nat.strongRecOn with
  | _ u ih =>
    rw [decDigits]
    split
    · rename_i h
      exact ⟨_, [], rfl, by rw [dg_toNat u h]; omega, by rw [dg_toNat u h]; omega⟩
    · rename_i h
      obtain ⟨b, r, e, h1, h2⟩ := ih (u / 10) (by omega)
      exact ⟨b, r ++ _, by rw [e]; rfl, h1, h2⟩
theorem parseM_append (M : Nat) (c : UInt8) : ∀ (l : List UInt8) (acc a : Nat), parseUintM M acc l = .ok a → parseUintM M acc (l ++ [c]) = parseUintM M a [c]
  | [], acc, a, h => by simp only [parseUintM] at h; injection h with h; subst h; rfl
  | b :: l, acc, a, h => by
    simp only [parseUintM, List.cons_append] at h ⊢
    split at h
    · rename_i hb
      rw [if_pos hb]
      split at h
      · cases h
      · rename_i h1
        rw [if_neg h1]
        split at h
        · cases h
        · rename_i h2
          rw [if_neg h2]
          exact parseM_append M c l _ a h
    · cases h
theorem parseM_dg (M a u : Nat) (hu : u < 10) (h1 : a < 1844674407370955162) (h2 : a * 10 + u ≤ M) : parseUintM M a [UInt8.ofNat (48 + u)] = .ok (a * 10 + u) := by
  have e := dg_toNat u hu
  simp only [parseUintM, e]
  rw [if_pos (by omega), if_neg (by omega), if_neg (by omega)]
  congr 1; omega
theorem parse_dec (M : Nat) (hM : M ≤ 18446744073709551615) (u : Nat) (h : u ≤ M) : parseUintM M 0 (decDigits u) = .ok u := by
  induction u using Nat.strongRecOn with
  | _ u ih =>
    rw [decDigits]
    split
    · rename_i hu
      rw [parseM_dg M 0 u hu (by omega) (by omega)]; congr 1; omega
    · rename_i hu
      rw [parseM_append _ _ _ _ _ (ih (u / 10) (by omega) (by omega)), parseM_dg M _ _ (by omega) (by omega) (by omega)]
      congr 1; omega
theorem parseU_dec (u : Nat) (h : u ≤ 9223372036854775808) : parseUintB 64 (decDigits u) = .ok u := by
  obtain ⟨b, r, e, _, _⟩ := dec_head u
  unfold parseUintB
  rw [if_neg (by rw [e]; simp)]
  exact parse_dec (2 ^ 64 - 1) (by decide) u (by omega)
theorem parse_itoa (n : Int) (h0 : -9223372036854775808 ≤ n) (h1 : n ≤ 9223372036854775807) : parseIntB 64 (itoa n) = .ok n := by
  have h64 : (2:Nat) ^ (64 - 1) = 9223372036854775808 := by decide
  by_cases h : n < 0
  · rw [itoa, if_pos h, parseIntB_minus, parseU_dec _ (by omega), signedC, h64, if_neg (by omega)]
    congr 1; omega
  · rw [itoa, if_neg h]
    have hp := parseU_dec n.toNat (by omega)
    obtain ⟨b, r, e, q1, q2⟩ := dec_head n.toNat
    rw [e] at hp ⊢
    rw [parseIntB_plain 64 b r (by omega) (by omega), hp, signlessC, h64, if_neg (by omega)]
    congr 1; omega
theorem ndig_le : ∀ (k u : Nat), u < 10 ^ (k + 1) → nDigits u ≤ k + 1
  | 0, u, h => by rw [nDigits_small (by simpa using h)]; omega
  | k + 1, u, h => by
    by_cases hu : u < 10
    · rw [nDigits_small hu]; omega
    · rw [Nat.pow_succ] at h
      rw [nDigits_big hu]
      have := ndig_le k (u / 10) (by omega)
      omega
theorem itoa_len (n : Int) (h0 : -1000000000000000 ≤ n) (h1 : n ≤ 1000000000000000) : 1 ≤ (itoa n).length ∧ (itoa n).length ≤ 17 := by
  have h15 : (10 : Nat) ^ (15 + 1) = 10000000000000000 := by decide
  unfold itoa
  split
  · have := ndig_le 15 n.natAbs (by omega)
    rw [List.length_cons, decDigits_length]; omega
  · have := ndig_le 15 n.toNat (by omega)
    have := nDigits_pos n.toNat
    rw [decDigits_length]; omega
/-- What the reference reads. -/
def sgn (s : ByteArray) : Int := if s.data.toList.head? = some 45 then -(df s s.size) else df s s.size
theorem sgn_itoa (n : Int) : sgn ⟨(itoa n).toArray⟩ = n := by
  unfold sgn
  rw [df_all]
  by_cases h : n < 0
  · rw [itoa, if_pos h]
    have e : dstep 0 45 = 0 := by decide
    simp only [List.head?_cons, if_true, List.foldl_cons, e]
    rw [fold_dec]; omega
  · rw [itoa, if_neg h]
    obtain ⟨b, r, e, q1, q2⟩ := dec_head n.toNat
    have hf := fold_dec n.toNat
    rw [e] at hf ⊢
    have hb : b ≠ 45 := fun q => by rw [q] at q1; exact absurd q1 (by decide)
    simp only [List.head?_cons, Option.some.injEq, hb, if_false, hf]; omega
/-- The number with a text, if there is one. -/
def rd (s : ByteArray) : Option Int := if -1000000000000000 ≤ sgn s ∧ sgn s ≤ 1000000000000000 ∧ (⟨(itoa (sgn s)).toArray⟩ : ByteArray) = s then some (sgn s) else none
theorem rd_of (n : Int) (s : ByteArray) (h0 : -1000000000000000 ≤ n) (h1 : n ≤ 1000000000000000) (h : (⟨(itoa n).toArray⟩ : ByteArray) = s) : rd s = some n := by
  subst h
  unfold rd
  rw [sgn_itoa, if_pos ⟨h0, h1, rfl⟩]
theorem rd_len {n : Int} {s : ByteArray} (h : rd s = some n) : -1000000000000000 ≤ n ∧ n ≤ 1000000000000000 ∧ (⟨(itoa n).toArray⟩ : ByteArray) = s ∧ 1 ≤ s.size ∧ s.size ≤ 17 ∧ sgn s = n ∧ parseIntB 64 s.data.toList = .ok n := by
  unfold rd at h
  split at h
  · rename_i hh
    obtain ⟨h0, h1, h2⟩ := hh
    have e : sgn s = n := Option.some.inj h
    rw [e] at h0 h1 h2
    have hl := itoa_len n h0 h1
    have hz : s.size = (itoa n).length := by rw [← h2]; rfl
    refine ⟨h0, h1, h2, by omega, by omega, e, ?_⟩
    rw [← h2]
    exact parse_itoa n (by omega) (by omega)
  · cases h

end Go.Proofs.YtcaceplnlfmejaaGreatDoor
