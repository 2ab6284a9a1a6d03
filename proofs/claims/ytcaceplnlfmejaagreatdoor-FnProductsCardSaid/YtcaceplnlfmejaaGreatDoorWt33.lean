/- Eight hexadecimal digits, read back: plain laws; the library's ParseUint at base 16 and 32 bits. -/
import Derived.Test.YtcaceplnlfmejaaGreatDoorWt28
import Derived.Test.YtcaceplnlfmejaaGreatDoorWk5
import Derived.Lib.ConvBytes
import Derived.Lib.AtoiErrMem
namespace Go.Proofs.YtcaceplnlfmejaaGreatDoor
open Fl Go.RowKit

/-- The value of a hexadecimal digit. -/
def hval (b : UInt8) : Option Nat := if 48 ≤ b.toNat ∧ b.toNat ≤ 57 then some (b.toNat - 48) else if 97 ≤ b.toNat ∧ b.toNat ≤ 102 then some (b.toNat - 87) else none
def hacc : List UInt8 → Nat → Option Nat
  | [], n => some n
  | b :: r, n => match hval b with
    | some d => hacc r (16 * n + d)
    | none => none
def rh (p : ByteArray) : Option Nat := if p.size = 8 then (match hacc p.data.toList 0 with | some n => if nb n = n then some n else none | none => none) else none
theorem hval_hB : ∀ d : Fin 16, hval (hB d.1) = some d.1 := by decide +kernel
theorem hval_of {b : UInt8} {d : Nat} (h : hval b = some d) : d < 16 ∧ b = hB d := by
  have : ∀ n : Fin 256, ∀ d, hval (UInt8.ofNat n.1) = some d → d < 16 ∧ UInt8.ofNat n.1 = hB d := by
    intro n d h
    unfold hval at h
    have hn : (UInt8.ofNat n.1).toNat = n.1 := by rw [UInt8.toNat_ofNat']; have := n.2; omega
    rw [hn] at h
    split at h
    · rename_i h1
      have e := Option.some.inj h
      refine ⟨by omega, ?_⟩
      rw [hB, hd, if_pos (by omega)]
      congr 1; omega
    · split at h
      · have e := Option.some.inj h
        refine ⟨by omega, ?_⟩
        rw [hB, hd, if_neg (by omega)]
        congr 1; omega
      · cases h
  have h2 := this ⟨b.toNat, b.toNat_lt⟩ d
  simp only [UInt8.ofNat_toNat] at h2
  exact h2 h
theorem hacc_hx (m : Nat) : ∀ j a, hacc (hx m j) a = some (a * 16 ^ j + m % 16 ^ j)
  | 0, a => by simp [hx, hacc, Nat.mod_one]
  | j + 1, a => by
    have hlt : m / 16 ^ j % 16 < 16 := Nat.mod_lt _ (by decide)
    rw [hx, hacc, hval_hB ⟨_, hlt⟩]
    simp only
    rw [hacc_hx m j]
    congr 1
    have e : m % 16 ^ (j + 1) = 16 ^ j * (m / 16 ^ j % 16) + m % 16 ^ j := by
      rw [Nat.pow_succ, Nat.mod_mul]; omega
    rw [e, Nat.pow_succ, Nat.add_mul]
    have : 16 * a * 16 ^ j = a * (16 ^ j * 16) := by rw [Nat.mul_comm 16 a, Nat.mul_assoc, Nat.mul_comm 16]
    rw [this, Nat.mul_comm (m / 16 ^ j % 16)]; omega
theorem hacc_back : ∀ (l : List UInt8) (a n : Nat), hacc l a = some n → l = hx n l.length ∧ n / 16 ^ l.length = a
  | [], a, n, h => by
    simp only [hacc, Option.some.injEq] at h
    subst h
    exact ⟨rfl, by simp⟩
  | b :: r, a, n, h => by
    rw [hacc] at h
    cases hv : hval b with
    | none => rw [hv] at h; cases h
    | some d =>
      rw [hv] at h
      obtain ⟨hd16, hb⟩ := hval_of hv
      obtain ⟨h1, h2⟩ := hacc_back r _ n h
      have e : n / 16 ^ r.length % 16 = d := by rw [h2]; omega
      refine ⟨?_, ?_⟩
      · rw [List.length_cons, hx, e, ← hb, ← h1]
      · rw [List.length_cons, ← dvd16, h2]; omega
theorem hacc_snoc (b : UInt8) : ∀ (l : List UInt8) (a : Nat), hacc (l ++ [b]) a = (hacc l a).bind fun n => (hval b).map fun d => 16 * n + d
  | [], a => by
    simp only [List.nil_append, hacc, Option.bind_some]
    cases hval b <;> rfl
  | c :: r, a => by
    simp only [List.cons_append, hacc]
    cases hval c with
    | none => rfl
    | some d => exact hacc_snoc b r _
theorem hacc_lt (l : List UInt8) (n : Nat) (h : hacc l 0 = some n) : n < 16 ^ l.length := by
  have := (hacc_back l 0 n h).2
  exact (Nat.div_eq_zero_iff.1 this).resolve_left (fun h => absurd h (Nat.ne_of_gt (Nat.pow_pos (by decide))))
theorem rh_some {p : ByteArray} {m : Nat} (h : rh p = some m) : m < 4294967296 ∧ nb m = m ∧ p = hexB m := by
  unfold rh at h
  split at h
  · rename_i h8
    split at h
    · rename_i n hn
      split at h
      · rename_i hb
        obtain rfl := Option.some.inj h
        have hl : p.data.toList.length = 8 := by simpa using h8
        have hlt := hacc_lt _ _ hn
        have hk := (hacc_back _ _ _ hn).1
        rw [hl] at hlt hk
        refine ⟨by simpa using hlt, hb, ?_⟩
        rw [hexB, ← hk]
      · cases h
    · cases h
  · cases h
theorem rh_hexB {m : Nat} (h : m < 4294967296) : rh (hexB m) = if nb m = m then some m else none := by
  have e : hacc (hexB m).data.toList 0 = some m := by
    have := hacc_hx m 8 0
    rw [show (hexB m).data.toList = hx m 8 by simp [hexB], this, Nat.mod_eq_of_lt (by rw [pow16_8]; exact h)]
    simp
  rw [rh, if_pos (hexB_size m), e]
theorem hexB_at (m k : Nat) (h : k < 8) : (hexB m).data.toList[k]? = some (hB (m / 16 ^ (7 - k) % 16)) := by
  rcases (by omega : k = 0 ∨ k = 1 ∨ k = 2 ∨ k = 3 ∨ k = 4 ∨ k = 5 ∨ k = 6 ∨ k = 7) with rfl | rfl | rfl | rfl | rfl | rfl | rfl | rfl <;> rfl
/-- What the loop of the library's reader knows. -/
def Gx (s : ByteArray) (n k : Nat) : Prop := ∀ m, m < 4294967296 → s = hexB m → k ≤ 8 ∧ n = m / 16 ^ (8 - k)
theorem Gx_start (s : ByteArray) : Gx s 0 0 := fun m hm _ => ⟨by omega, by rw [Nat.div_eq_of_lt (by rw [pow16_8]; exact hm)]⟩
theorem Gx_step {s : ByteArray} {n k d : Nat} {b : UInt8} (h : Gx s n k) (hb : s.data.toList[k]? = some b) (hd : ∀ e, hval b = some e → d = e) : Gx s (16 * n + d) (k + 1) := by
  intro m hm hs
  obtain ⟨h1, h2⟩ := h m hm hs
  have hk : k < 8 := by
    have := (List.getElem?_eq_some_iff.1 hb).1
    have e : s.data.toList.length = s.size := by simp
    rw [e, hs, hexB_size] at this
    exact this
  rw [hs, hexB_at m k hk] at hb
  obtain rfl := Option.some.inj hb
  have hlt : m / 16 ^ (7 - k) % 16 < 16 := Nat.mod_lt _ (by decide)
  have hd' := hd _ (hval_hB ⟨_, hlt⟩)
  refine ⟨by omega, ?_⟩
  have e1 : 8 - (k + 1) = 7 - k := by omega
  have e2 : 8 - k = (7 - k) + 1 := by omega
  rw [e1, hd', h2, e2, ← dvd16]
  simp only
  omega
theorem Gx_bad {s : ByteArray} {k : Nat} {b : UInt8} (hb : s.data.toList[k]? = some b) (hd : hval b = none) : ∀ m, m < 4294967296 → s ≠ hexB m := by
  intro m hm hs
  have hk : k < 8 := by
    have := (List.getElem?_eq_some_iff.1 hb).1
    have e : s.data.toList.length = s.size := by simp
    rw [e, hs, hexB_size] at this
    exact this
  rw [hs, hexB_at m k hk] at hb
  obtain rfl := Option.some.inj hb
  rw [hval_hB ⟨_, Nat.mod_lt _ (by decide)⟩] at hd
  cases hd
theorem Gx_big {s : ByteArray} {n k d : Nat} {b : UInt8} (h : Gx s n k) (hb : s.data.toList[k]? = some b) (hd : ∀ e, hval b = some e → d = e) (hbig : 4294967295 < 16 * n + d) : ∀ m, m < 4294967296 → s ≠ hexB m := by
  intro m hm hs
  have := (Gx_step h hb hd m hm hs).2
  have hle : m / 16 ^ (8 - (k + 1)) ≤ m := Nat.div_le_self _ _
  omega
theorem Gx_end {s : ByteArray} {n : Nat} (h : Gx s n s.size) : ∀ m, m < 4294967296 → s = hexB m → n = m := by
  intro m hm hs
  have := (h m hm hs).2
  rw [hs, hexB_size] at this
  simpa using this
theorem hexB_ne (m : Nat) : hexB m ≠ ⟨#[]⟩ := by
  intro h
  have := hexB_size m
  rw [h] at this
  exact absurd this (by decide)
/-- The letter in lower case, as the library reckons it. -/
theorem low_fact : ∀ c : Fin 256, 0 ≤ bits .or .u8 (c.1 : Int) 32 ∧ bits .or .u8 (c.1 : Int) 32 ≤ 255 ∧ (97 ≤ c.1 → c.1 ≤ 102 → bits .or .u8 (c.1 : Int) 32 = (c.1 : Int)) := by decide +kernel
theorem hval_dec {b : UInt8} (h0 : 48 ≤ (b.toNat : Int)) (h1 : (b.toNat : Int) ≤ 57) : ∀ e, hval b = some e → b.toNat - 48 = e := by
  intro e h
  rw [hval, if_pos (by omega)] at h
  exact Option.some.inj h
theorem hval_low {b : UInt8} {L : Int} (hL : L = bits .or .u8 (b.toNat : Int) 32) (hn : ¬ (48 ≤ (b.toNat : Int) ∧ (b.toNat : Int) ≤ 57)) : ∀ e, hval b = some e → 97 ≤ L ∧ L ≤ 122 ∧ (L - 87).toNat = e ∧ (L - 87).toNat < 16 := by
  intro e h
  rw [hval, if_neg (by omega)] at h
  split at h
  · rename_i hh
    have := (low_fact ⟨b.toNat, b.toNat_lt⟩).2.2 hh.1 hh.2
    simp only at this
    rw [← hL] at this
    have e2 := Option.some.inj h
    omega
  · cases h

end Go.Proofs.YtcaceplnlfmejaaGreatDoor
