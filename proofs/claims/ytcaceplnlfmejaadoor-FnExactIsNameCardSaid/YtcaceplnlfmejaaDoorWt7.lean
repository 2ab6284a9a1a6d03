/- IsName: the walks of the reference, of the program and of the law. -/
import Derived.Test.YtcaceplnlfmejaaDoorWt3
import Derived.Test.YtcaceplnlfmejaaDoorStrim
namespace Go.Proofs.YtcaceplnlfmejaaDoor
open Go.RowKit

/-- A small letter. -/
def low (b : UInt8) : Bool := decide (97 ≤ (b.toNat : Int)) && decide ((b.toNat : Int) ≤ 122)
def isN (s : ByteArray) : Bool := s.data.toList.all low && decide (1 ≤ s.size) && decide (s.size ≤ 8)
def abc : List UInt8 := [97, 98, 99, 100, 101, 102, 103, 104, 105, 106, 107, 108, 109, 110, 111, 112, 113, 114, 115, 116, 117, 118, 119, 120, 121, 122]
theorem low_abc (b : UInt8) : abc.contains b = low b := by
  have : ∀ n : Fin 256, abc.contains (UInt8.ofNat n.1) = low (UInt8.ofNat n.1) := by decide +kernel
  have h := this ⟨b.toNat, b.toNat_lt⟩
  simpa using h
theorem trim_abc (l : List UInt8) : (Lib.trimS l abc = []) ↔ l.all low = true := by
  have hc : (fun b => abc.contains b) = low := funext low_abc
  have dw : ∀ l : List UInt8, l.dropWhile low = [] ↔ l.all low = true := by
    intro l
    induction l with
    | nil => simp
    | cons a l ih => rw [List.dropWhile_cons]; by_cases h : low a = true <;> simp [h, ih]
  unfold Lib.trimS Lib.trimLeftS Lib.trimRightS
  rw [hc, dw, List.all_reverse]
  constructor
  · intro h
    have : l.reverse.dropWhile low = [] := by
      cases hd : l.reverse.dropWhile low with
      | nil => rfl
      | cons a t =>
        rw [hd] at h
        have h1 : low a = true := by simp at h; exact h.1
        have h2 := List.head_dropWhile_not (p := low) (l := l.reverse) (by rw [hd]; simp)
        simp [hd, h1] at h2
    rw [dw, List.all_reverse] at this
    exact this
  · intro h
    have : l.reverse.dropWhile low = [] := by rw [dw, List.all_reverse]; exact h
    rw [this]; rfl
theorem all_low (s : ByteArray) (h : ∀ j (hj : j < s.size), low s[j] = true) : s.data.toList.all low = true := by
  rw [List.all_eq_true]
  intro b hb
  obtain ⟨i, hi, rfl⟩ := List.getElem_of_mem hb
  exact h i (by simpa using hi)
theorem not_low (s : ByteArray) (j : Nat) (hj : j < s.size) (h : low s[j] = false) : s.data.toList.all low = false := by
  cases hh : s.data.toList.all low with
  | false => rfl
  | true =>
    have := List.all_eq_true.1 hh s[j] (Array.mem_toList_iff.2 (show s.data[j]'hj ∈ s.data from Array.getElem_mem hj))
    rw [h] at this; exact this.symm

theorem spec_IsName (w : World) (s : ByteArray) (hs : s.size ≤ maxLen) : Calls Tryd.prog 13 #[.string s] w (fun e w' => e = .returned (.bool (isN s)) ∧ Below w.heap.size w w') := by
  unfold maxLen at hs
  go_enter Tryd.func13, Tryd.ntmps13
  go_wp2
  go_loopw [3] (fun i wr => ∃ k : Nat, k ≤ s.size ∧ i = .int .i64 k ∧ Hid (∀ j (hj : j < s.size), j < k → low s[j] = true) ∧ Below w.heap.size w wr) (fun i _ => s.size - (intOf i).toNat)
  case atStart => exact ⟨0, Nat.zero_le _, rfl, Lib.hid (fun j _ h => by omega), Below.refl _ _⟩
  case round =>
    obtain ⟨k, hk, rfl, hl, hb⟩ := hrel
    have HB := Lib.hid hb; clear hb
    by_cases hlt : k < s.size
    · have hby : (s[k].toNat : Int) ≤ 255 := by have := s[k].toNat_lt; omega
      have hby0 : 0 ≤ (s[k].toNat : Int) := by omega
      by_cases h1 : (s[k].toNat : Int) < 97
      · go_wp2
        go_ret
        exact ⟨by rw [isN, not_low s k hlt (by simp [low]; omega)]; rfl, HB.out⟩
      · by_cases h2 : 122 < (s[k].toNat : Int)
        · go_wp2
          go_ret
          exact ⟨by rw [isN, not_low s k hlt (by simp [low]; omega)]; rfl, HB.out⟩
        · go_wp2
          go_roundw
          case rel => exact ⟨k + 1, by omega, by go_num, Lib.hid (fun j hj h => by
            rcases Nat.lt_or_ge j k with q | q
            · exact hl.out j hj q
            · obtain rfl : j = k := by omega
              simp [low]; omega), HB.out⟩
          case measure => simp [intOf]; omega
    · have hall := all_low s (fun j hj => hl.out j hj (by omega))
      have hr : isN s = (decide (1 ≤ s.size) && decide (s.size ≤ 8)) := by rw [isN, hall]; rfl
      have HR := Lib.hid hr; clear hr hall
      by_cases h1 : 1 ≤ s.size
      · by_cases h8 : s.size ≤ 8
        · go_wp2
          go_ret
          exact ⟨by rw [HR.out]; simp [h1, h8]; try omega, HB.out⟩
        · go_wp2
          go_ret
          exact ⟨by rw [HR.out]; simp [h1, h8]; try omega, HB.out⟩
      · go_wp2
        go_ret
        exact ⟨by rw [HR.out]; simp [h1]; try omega, HB.out⟩

theorem impl_IsName (w : World) (s : ByteArray) (hs : s.size ≤ maxLen) : Calls Tryd.prog 14 #[.string s] w (fun e w' => e = .returned (.bool (isN s)) ∧ Below w.heap.size w w') := by
  unfold maxLen at hs
  have HT := Lib.hid (fun w => Tryd.strings_Trim_ascii s ⟨abc.toArray⟩ w (by omega) (by decide) (ascii_of_all (by decide)))
  go_enter Tryd.func14, Tryd.ntmps14
  by_cases h1 : 1 ≤ s.size
  · by_cases h8 : s.size ≤ 8
    · go_wp2_with fail
      refine (HT.out _).mono ?_
      rintro e w' ⟨rfl, hb⟩
      have HB := Lib.hid hb
      clear hb
      by_cases ht : Lib.trimS s.data.toList abc = []
      · have hr : isN s = true := by rw [isN, (trim_abc _).1 ht]; simp [h1, h8]
        rw [ht]
        have HR := Lib.hid hr; clear hr
        go_wp2
        go_ret
        exact ⟨by rw [HR.out]; first | rfl | (simp [Act.tmps, hne]; done), HB.out⟩
      · have hr : isN s = false := by
          have : s.data.toList.all low = false := by
            cases hh : s.data.toList.all low with
            | false => rfl
            | true => exact absurd ((trim_abc _).2 hh) ht
          rw [isN, this]; rfl
        have hne : (⟨(Lib.trimS s.data.toList abc).toArray⟩ : ByteArray).toList.isEmpty = false := by
          rw [Lib.toList_data]
          cases hh : Lib.trimS s.data.toList abc with
          | nil => exact absurd hh ht
          | cons _ _ => rfl
        have HR := Lib.hid hr; clear hr
        generalize (⟨(Lib.trimS s.data.toList abc).toArray⟩ : ByteArray) = t at *
        go_wp2
        go_ret
        exact ⟨by rw [HR.out]; first | rfl | (simp [Act.tmps, hne]; done), HB.out⟩
    · go_wp2
      go_ret
      exact ⟨by simp [isN, h1, h8], Below.refl _ _⟩
  · go_wp2
    go_ret
    exact ⟨by simp [isN, h1], Below.refl _ _⟩

theorem law_IsName (w : World) (s : ByteArray) (hs : s.size ≤ maxLen) : Calls Tryd.prog 4 #[.string s] w (fun e w' => e = .returned (.bool true) ∧ Below w.heap.size w w') := by
  have hm := hs
  unfold maxLen at hm
  have HS := Lib.hid (spec_IsName w s hs)
  have HI := Lib.hid (fun w' => impl_IsName w' s hs)
  by_cases hlong : 1048576 < s.size
  · go_enter Tryd.func4, Tryd.ntmps4
    go_wp2
    go_ret
    exact ⟨rfl, Below.refl _ _⟩
  · obtain ⟨r, hr⟩ : ∃ r, isN s = r := ⟨_, rfl⟩
    rw [hr] at HS HI
    clear hr
    go_enter Tryd.func4, Tryd.ntmps4
    go_wp2_with fail
    refine HS.out.mono ?_
    rintro e w1 ⟨rfl, hb⟩
    have HB := Lib.hid hb
    clear hb
    go_wp2_with fail
    refine (HI.out _).mono ?_
    rintro e w2 ⟨rfl, hb⟩
    replace HB := Lib.hid (HB.out.trans (hb.mono HB.out.size))
    clear hb
    cases r
    · go_wp2
      go_ret
      exact ⟨rfl, HB.out⟩
    · go_wp2
      go_ret
      exact ⟨rfl, HB.out⟩

end Go.Proofs.YtcaceplnlfmejaaDoor
