/- ReadDecimal: the walks of the reference. -/
import Derived.Test.YtcaceplnlfmejaaDoorWt9
namespace Go.Proofs.YtcaceplnlfmejaaDoor
open Go.RowKit
open Lib (itoa decDigits parseIntB)

def rdV (s : ByteArray) : Value := match rd s with
  | some n => .tuple #[.int .i64 n, .bool true]
  | none => .tuple #[.int .i64 0, .bool false]
def inB (n a b : Int) : Bool := decide (a ≤ n) && decide (n ≤ b)

theorem impl_withinB (n a b : Int) (w : World) : Calls Tryd.prog 66 #[.int .i64 n, .int .i64 a, .int .i64 b] w (fun e w' => e = .returned (.bool (inB n a b)) ∧ Below w.heap.size w w') := by
  by_cases h1 : a ≤ n
  · have h2 : inB n a b = decide (n ≤ b) := by simp [inB, h1]
    rw [h2]
    by_cases h3 : n ≤ b
    · go_enter Tryd.func66, Tryd.ntmps66
      go_wp2
      go_ret
      exact ⟨by simp [h3], Below.refl _ _⟩
    · go_enter Tryd.func66, Tryd.ntmps66
      go_wp2
      go_ret
      exact ⟨by simp [h3], Below.refl _ _⟩
  · have h2 : inB n a b = false := by simp [inB, h1]
    rw [h2]
    go_enter Tryd.func66, Tryd.ntmps66
    go_wp2
    go_ret
    exact ⟨rfl, Below.refl _ _⟩

theorem spec_l00InB (n a b : Int) (w : World) : Calls Tryd.prog 65 #[.int .i64 n, .int .i64 a, .int .i64 b] w (fun e w' => e = .returned (.bool (inB n a b)) ∧ Below w.heap.size w w') := by
  by_cases h1 : a ≤ n
  · have h2 : inB n a b = decide (n ≤ b) := by simp [inB, h1]
    rw [h2]
    by_cases h3 : n ≤ b
    · go_enter Tryd.func65, Tryd.ntmps65
      go_wp2
      go_ret
      exact ⟨by simp [h3], Below.refl _ _⟩
    · go_enter Tryd.func65, Tryd.ntmps65
      go_wp2
      go_ret
      exact ⟨by simp [h3], Below.refl _ _⟩
  · have h2 : inB n a b = false := by simp [inB, h1]
    rw [h2]
    go_enter Tryd.func65, Tryd.ntmps65
    go_wp2
    go_ret
    exact ⟨rfl, Below.refl _ _⟩

theorem impl_isValueB (n : Int) (w : World) : Calls Tryd.prog 43 #[.int .i64 n] w (fun e w' => e = .returned (.bool (inB n (-1000000000000000) 1000000000000000)) ∧ Below w.heap.size w w') := by
  have H := Lib.hid (impl_withinB n (-1000000000000000) 1000000000000000)
  generalize inB n (-1000000000000000) 1000000000000000 = r at *
  go_enter Tryd.func43, Tryd.ntmps43
  go_wp2_with fail
  refine (H.out _).mono ?_
  rintro e w1 ⟨rfl, hb⟩
  have HB := Lib.hid hb
  clear hb
  go_wp2
  go_ret
  exact ⟨rfl, HB.out⟩

theorem rdV_none (s : ByteArray) (h : rd s = none) : rdV s = .tuple #[.int .i64 0, .bool false] := by unfold rdV; rw [h]
theorem rdV_some (s : ByteArray) (n : Int) (h : rd s = some n) : rdV s = .tuple #[.int .i64 n, .bool true] := by unfold rdV; rw [h]
theorem rd_short (s : ByteArray) (h : s.size < 1 ∨ 17 < s.size) : rdV s = .tuple #[.int .i64 0, .bool false] := by
  refine rdV_none s ?_
  cases e : rd s with
  | none => rfl
  | some n => have := rd_len e; omega
theorem sgn_at (s : ByteArray) (h : 0 < s.size) : sgn s = if (s[0].toNat : Int) = 45 then -(df s s.size) else df s s.size := by
  have hk : s.data.toList.head? = some s[0] := by
    rw [List.head?_eq_getElem?, Array.getElem?_toList]
    exact Array.getElem?_eq_getElem (xs := s.data) (i := 0) h
  unfold sgn
  rw [hk]
  by_cases e : s[0] = 45
  · rw [if_pos (by rw [e]), if_pos (by rw [e]; rfl)]
  · rw [if_neg (by simpa using e), if_neg (fun q => e (UInt8.toNat_inj.1 (by have : (45 : UInt8).toNat = 45 := rfl
                                                                             omega)))]
theorem rd_no (s : ByteArray) (h : inB (sgn s) (-1000000000000000) 1000000000000000 = false) : rd s = none := by
  unfold rd
  rw [if_neg]
  rintro ⟨h0, h1, _⟩
  simp [inB] at h
  omega
theorem rd_ne (s : ByteArray) (h : (⟨(itoa (sgn s)).toArray⟩ : ByteArray) ≠ s) : rd s = none := by
  unfold rd
  rw [if_neg (fun q => h q.2.2)]
theorem rd_yes (s : ByteArray) (h : inB (sgn s) (-1000000000000000) 1000000000000000 = true) (h2 : (⟨(itoa (sgn s)).toArray⟩ : ByteArray) = s) : rd s = some (sgn s) := by
  unfold rd
  simp [inB] at h
  rw [if_pos ⟨by omega, by omega, h2⟩]

/-- The last test of the reference. -/
theorem isDg_of (b : UInt8) (h1 : 48 ≤ (b.toNat : Int)) (h2 : (b.toNat : Int) ≤ 57) : isDg b = true := by simp [isDg]; omega
theorem isDg_no (b : UInt8) (h : (b.toNat : Int) < 48 ∨ 57 < (b.toNat : Int)) : isDg b = false := by simp [isDg]; omega
theorem str_ne {t s : ByteArray} (h : t ≠ s) : (t.toList == s.toList) = false := by
  rw [Lib.toList_data, Lib.toList_data]
  cases e : (t.data.toList == s.data.toList) with
  | false => rfl
  | true =>
    have := eq_of_beq e
    exact absurd (by cases t; cases s; simpa using this) h
set_option maxRecDepth 20000 in
theorem spec_l01Value (w : World) (s : ByteArray) (hs : s.size ≤ maxLen) : Calls Tryd.prog 49 #[.string s] w (fun e w' => e = .returned (rdV s) ∧ Below w.heap.size w w') := by
  unfold maxLen at hs
  by_cases hlo : s.size < 1
  · rw [rd_short s (.inl hlo)]
    go_enter Tryd.func49, Tryd.ntmps49
    go_wp2
    go_ret2
    exact ⟨rfl, Below.refl _ _⟩
  by_cases hhi : 17 < s.size
  · rw [rd_short s (.inr hhi)]
    go_enter Tryd.func49, Tryd.ntmps49
    go_wp2
    go_ret2
    exact ⟨rfl, Below.refl _ _⟩
  have HI := Lib.hid (fun n w => spec_l00InB n (-1000000000000000) 1000000000000000 w)
  have HD := Lib.hid (fun n h0 h1 w => spec_l01Dec w n h0 h1)
  go_enter Tryd.func49, Tryd.ntmps49
  go_wp2
  go_loopw [4, 5] (fun n i wr => ∃ k : Nat, k ≤ s.size ∧ i = .int .i64 k ∧ n = .int .i64 (df s k) ∧ Below w.heap.size w wr) (fun _ i _ => s.size - (RowKit.intOf i).toNat)
  case atStart => exact ⟨0, Nat.zero_le _, rfl, rfl, Below.refl _ _⟩
  case round =>
    obtain ⟨k, hk, rfl, rfl, hb⟩ := hrel
    have HB := Lib.hid hb; clear hb
    obtain ⟨b1, b2⟩ := df_le s k (by omega)
    by_cases hlt : k < s.size
    · have hby : (s[k].toNat : Int) ≤ 255 := by have := s[k].toNat_lt; omega
      have hby0 : 0 ≤ (s[k].toNat : Int) := by omega
      have HY := Lib.hid (df_yes s k hlt)
      have HN := Lib.hid (df_no s k hlt)
      have H1 := Lib.hid (isDg_of s[k])
      have H2 := Lib.hid (isDg_no s[k])
      generalize hc : df s k = c at *
      clear hc
      by_cases h1 : (s[k].toNat : Int) < 48
      · go_wp2
        go_roundw
        case rel => exact ⟨k + 1, by omega, by go_num, by rw [HN.out (H2.out (.inl h1))], HB.out⟩
        case measure => simp [RowKit.intOf]; omega
      · by_cases h2 : 57 < (s[k].toNat : Int)
        · go_wp2
          go_roundw
          case rel => exact ⟨k + 1, by omega, by go_num, by rw [HN.out (H2.out (.inr h2))], HB.out⟩
          case measure => simp [RowKit.intOf]; omega
        · go_wp2
          go_roundw
          case rel => exact ⟨k + 1, by omega, by go_num, by rw [HY.out (H1.out (by omega) (by omega))], HB.out⟩
          case measure => simp [RowKit.intOf]; omega
    · obtain rfl : k = s.size := by omega
      have hsg := sgn_at s (by omega)
      have HF : Hid (rd s = none → _) := Lib.hid (rdV_none s)
      have hw := HB.out.size
      have fin : ∀ (m : Int), m = sgn s → -99999999999999999 ≤ m → m ≤ 99999999999999999 → True := fun _ _ _ _ => trivial
      clear fin
      have hp0 : 0 < s.size := by omega
      have hby : (s[0].toNat : Int) ≤ 255 := by have := s[0].toNat_lt; omega
      have hby0 : 0 ≤ (s[0].toNat : Int) := by omega
      obtain ⟨m, hm⟩ : ∃ m, sgn s = m := ⟨_, rfl⟩
      have HR1 := Lib.hid (rd_no s); have HR2 := Lib.hid (rd_ne s); have HR3 := Lib.hid (rd_yes s); have HV := Lib.hid (rdV_some s)
      rw [hm] at hsg HR1 HR2 HR3
      generalize hc : df s s.size = c at *
      clear hc hm
      by_cases h45 : (s[0].toNat : Int) = 45
      · rw [if_pos h45] at hsg
        have hw2 : wrap64 (-c) = m := by rw [w_id (by omega) (by omega)]; exact hsg.symm
        have hm1 : -9223372036854775808 ≤ m := by omega
        have hm2 : m ≤ 9223372036854775807 := by omega
        clear hsg b1 b2
        go_wp2_with fail
        refine (HI.out m _).mono ?_
        rintro e w1 ⟨rfl, hb⟩
        have HB1 := Lib.hid (HB.out.trans (hb.mono hw))
        have hw1 := HB1.out.size
        clear hb HB
        cases hin : inB m (-1000000000000000) 1000000000000000 with
        | false =>
          have HZ := Lib.hid (rdV_none s (HR1.out hin))
          go_wp2
          go_ret2
          exact ⟨by rw [HZ.out]; first | done | rfl, HB1.out⟩
        | true =>
          have HR3' := Lib.hid (HR3.out hin)
          clear hin
          go_wp2_with fail
          refine (HD.out m hm1 hm2 _).mono ?_
          rintro e w2 ⟨rfl, hb⟩
          have HB2 := Lib.hid (HB1.out.trans (hb.mono hw1))
          clear hb HB1
          by_cases ht : (⟨(itoa m).toArray⟩ : ByteArray) = s
          · have HZ := Lib.hid (HV.out m (HR3'.out ht))
            rw [ht]
            clear ht
            go_wp2
            go_ret2
            exact ⟨by rw [HZ.out]; first | done | rfl, HB2.out⟩
          · have HZ := Lib.hid (rdV_none s (HR2.out ht))
            have hne := str_ne ht
            clear ht
            generalize (⟨(itoa m).toArray⟩ : ByteArray) = t at *
            go_wp2
            go_ret2
            exact ⟨by rw [HZ.out]; first | done | rfl, HB2.out⟩
      · rw [if_neg h45] at hsg
        have hmc : c = m := hsg.symm
        subst hmc
        have hm1 : -9223372036854775808 ≤ c := by omega
        have hm2 : c ≤ 9223372036854775807 := by omega
        clear b1 b2
        go_wp2_with fail
        refine (HI.out c _).mono ?_
        rintro e w1 ⟨rfl, hb⟩
        have HB1 := Lib.hid (HB.out.trans (hb.mono hw))
        have hw1 := HB1.out.size
        clear hb HB
        cases hin : inB c (-1000000000000000) 1000000000000000 with
        | false =>
          have HZ := Lib.hid (rdV_none s (HR1.out hin))
          go_wp2
          go_ret2
          exact ⟨by rw [HZ.out]; first | done | rfl, HB1.out⟩
        | true =>
          have HR3' := Lib.hid (HR3.out hin)
          clear hin
          go_wp2_with fail
          refine (HD.out c hm1 hm2 _).mono ?_
          rintro e w2 ⟨rfl, hb⟩
          have HB2 := Lib.hid (HB1.out.trans (hb.mono hw1))
          clear hb HB1
          by_cases ht : (⟨(itoa c).toArray⟩ : ByteArray) = s
          · have HZ := Lib.hid (HV.out c (HR3'.out ht))
            rw [ht]
            clear ht
            go_wp2
            go_ret2
            exact ⟨by rw [HZ.out]; first | done | rfl, HB2.out⟩
          · have HZ := Lib.hid (rdV_none s (HR2.out ht))
            have hne := str_ne ht
            clear ht
            generalize (⟨(itoa c).toArray⟩ : ByteArray) = t at *
            go_wp2
            go_ret2
            exact ⟨by rw [HZ.out]; first | done | rfl, HB2.out⟩

end Go.Proofs.YtcaceplnlfmejaaDoor
