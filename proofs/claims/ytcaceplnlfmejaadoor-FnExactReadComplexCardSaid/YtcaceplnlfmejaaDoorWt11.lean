/- ReadDecimal: the walks of the program and of the law. -/
import Derived.Test.YtcaceplnlfmejaaDoorWt10
import Derived.Test.YtcaceplnlfmejaaDoorSpi
import Derived.Lib.AtoiErrMem
namespace Go.Proofs.YtcaceplnlfmejaaDoor
open Go.RowKit
open Lib (itoa decDigits parseIntB)

def Tb (w : World) : Prop := Lib.TabIs Tryd.prog w "internal/strconv.uint64pow10" .u64 Lib.pow10Tab
def Errs (w : World) : Prop := (∃ te pe, w.cell? ⟨2, 0, none⟩ = some (.iface te pe)) ∧ (∃ te pe, w.cell? ⟨3, 0, none⟩ = some (.iface te pe)) ∧ 4 ≤ w.heap.size
theorem Errs.later {w w' : World} (h : Errs w) (hb : Below w.heap.size w w') : Errs w' := by
  obtain ⟨⟨t1, p1, h1⟩, ⟨t2, p2, h2⟩, h3⟩ := h
  have c : ∀ k, k < 4 → w'.cell? ⟨k, 0, none⟩ = w.cell? ⟨k, 0, none⟩ := fun k hk => by
    unfold World.cell?
    rw [hb.block k (by omega)]
  exact ⟨⟨t1, p1, (c _ (by decide)).trans h1⟩, ⟨t2, p2, (c _ (by decide)).trans h2⟩, Nat.le_trans h3 hb.size⟩
theorem Tb.later {w w' : World} (h : Tb w) (hb : Below w.heap.size w w') : Tb w' := tab_later h hb

theorem rd_parse_no (s : ByteArray) (h : ∀ v, parseIntB 64 s.data.toList ≠ .ok v) : rd s = none := by
  cases e : rd s with
  | none => rfl
  | some n => exact absurd (rd_len e).2.2.2.2.2.2 (h n)
theorem rd_parse_in (s : ByteArray) (v : Int) (hv : parseIntB 64 s.data.toList = .ok v) (h : inB v (-1000000000000000) 1000000000000000 = false) : rd s = none := by
  cases e : rd s with
  | none => rfl
  | some n =>
    have q := rd_len e
    have e2 := hv.symm.trans q.2.2.2.2.2.2
    injection e2 with e2
    subst e2
    simp [inB] at h
    omega
theorem rd_parse_ne (s : ByteArray) (v : Int) (hv : parseIntB 64 s.data.toList = .ok v) (h : (⟨(itoa v).toArray⟩ : ByteArray) ≠ s) : rd s = none := by
  cases e : rd s with
  | none => rfl
  | some n =>
    have q := rd_len e
    have e2 := hv.symm.trans q.2.2.2.2.2.2
    injection e2 with e2
    subst e2
    exact absurd q.2.2.1 h
theorem rd_parse_yes (s : ByteArray) (v : Int) (h : inB v (-1000000000000000) 1000000000000000 = true) (h2 : (⟨(itoa v).toArray⟩ : ByteArray) = s) : rd s = some v := by
  simp [inB] at h
  exact rd_of v s (by omega) (by omega) h2
theorem inB_bd {v : Int} (h : inB v (-1000000000000000) 1000000000000000 = true) : -9223372036854775808 ≤ v ∧ v ≤ 9223372036854775807 := by
  simp [inB] at h
  omega

theorem parse_call (s : ByteArray) (hs : s.size ≤ 1048576) (w : World) (he : Errs w) : Calls Tryd.prog 50 #[.string s, .int .i64 10, .int .i64 64] w (fun e w' => Below w.heap.size w w' ∧ ((∃ v, parseIntB 64 s.data.toList = .ok v ∧ e = .returned (.tuple #[.int .i64 v, .nilIface])) ∨ ((∀ v, parseIntB 64 s.data.toList ≠ .ok v) ∧ ∃ x t N, e = .returned (.tuple #[.int .i64 x, .iface t (.pointer (some ⟨N, 0, none⟩))])))) := by
  obtain ⟨⟨t1, p1, h1⟩, ⟨t2, p2, h2⟩, _⟩ := he
  cases h : parseIntB 64 s.data.toList with
  | ok v =>
    refine (Tryd.strconv_ParseInt_10_at64_ok s (by omega) v h w).mono ?_
    rintro e w' ⟨rfl, hw⟩
    refine ⟨?_, .inl ⟨v, rfl, rfl⟩⟩
    rcases hw with rfl | ⟨t, rfl⟩
    · exact Below.refl _ _
    · exact Lib.bytesWorld_below _ _ _
  | «syntax» =>
    refine (Tryd.strconv_ParseInt_10_at64_syntax s (by omega) h _ w h1 (.inr ⟨_, _, rfl⟩)).mono ?_
    rintro e w' ⟨N, rfl, _, _, hb⟩
    exact ⟨hb, .inr ⟨fun v q => (by cases q), _, _, _, rfl⟩⟩
  | range =>
    refine (Tryd.strconv_ParseInt_10_at64_range s (by omega) h _ w h2 (.inr ⟨_, _, rfl⟩)).mono ?_
    rintro e w' ⟨N, rfl, _, _, hb⟩
    exact ⟨hb, .inr ⟨fun v q => (by cases q), _, _, _, rfl⟩⟩

set_option maxRecDepth 20000 in
theorem impl_ReadDecimal (s : ByteArray) (hs : s.size ≤ 1048576) (w : World) (he : Errs w) (ht : Tb w) : Calls Tryd.prog 24 #[.string s] w (fun e w' => e = .returned (rdV s) ∧ Below w.heap.size w w') := by
  have HP := Lib.hid (parse_call s hs w he)
  have HE := Lib.hid ht
  clear he ht
  have HV := Lib.hid impl_isValueB
  have HD := Lib.hid (fun n h0 h1 w h => impl_Decimal w n h0 h1 h)
  have HRno := Lib.hid (rd_parse_no s)
  have HRin := Lib.hid (rd_parse_in s)
  have HRne := Lib.hid (rd_parse_ne s)
  have HRyes := Lib.hid (rd_parse_yes s)
  have HVN := Lib.hid (rdV_none s)
  have HVS := Lib.hid (rdV_some s)
  go_enter Tryd.func24, Tryd.ntmps24
  go_wp2_with fail
  refine HP.out.mono ?_
  rintro e w1 ⟨hb, ⟨v, hv, rfl⟩ | ⟨hv, x, t, N, rfl⟩⟩
  · have HB := Lib.hid hb
    have hw := hb.size
    have HE1 := Lib.hid (HE.out.later hb)
    have HRin' := Lib.hid (HRin.out v hv); have HRne' := Lib.hid (HRne.out v hv)
    clear hb hv HP HE
    go_wp2_with fail
    refine (HV.out v _).mono ?_
    rintro e w2 ⟨rfl, hb⟩
    have HB1 := Lib.hid (HB.out.trans (hb.mono hw))
    have hw1 := HB1.out.size
    have HE2 := Lib.hid (HE1.out.later hb)
    clear hb HB HE1
    cases hin : inB v (-1000000000000000) 1000000000000000 with
    | false =>
      have HZ := Lib.hid (HVN.out (HRin'.out hin))
      go_wp2
      go_ret2
      exact ⟨by rw [HZ.out]; first | done | rfl, HB1.out⟩
    | true =>
      obtain ⟨v0, v1⟩ := inB_bd hin
      have HRyes' := Lib.hid (HRyes.out v hin)
      clear hin
      go_wp2_with fail
      refine (HD.out v v0 v1 _ HE2.out).mono ?_
      rintro e w3 ⟨rfl, hb⟩
      have HB2 := Lib.hid (HB1.out.trans (hb.mono hw1))
      clear hb HB1
      by_cases ht : (⟨(itoa v).toArray⟩ : ByteArray) = s
      · have HZ := Lib.hid (HVS.out v (HRyes'.out ht))
        rw [ht]
        clear ht
        go_wp2
        go_ret2
        exact ⟨by rw [HZ.out]; first | done | rfl, HB2.out⟩
      · have HZ := Lib.hid (HVN.out (HRne'.out ht))
        have hne := str_ne ht
        clear ht
        generalize (⟨(itoa v).toArray⟩ : ByteArray) = t at *
        go_wp2
        go_ret2
        exact ⟨by rw [HZ.out]; first | done | rfl, HB2.out⟩
  · have HB := Lib.hid hb
    have HZ := Lib.hid (HVN.out (HRno.out hv))
    clear hb hv HP
    go_wp2
    go_ret2
    exact ⟨by rw [HZ.out]; first | done | rfl, HB.out⟩

theorem spec_ReadDecimal (w : World) (s : ByteArray) (hs : s.size ≤ maxLen) : Calls Tryd.prog 23 #[.string s] w (fun e w' => e = .returned (rdV s) ∧ Below w.heap.size w w') := by
  have H := Lib.hid (spec_l01Value w s hs)
  unfold rdV at *
  cases hr : rd s with
  | none =>
    rw [hr] at H
    go_enter Tryd.func23, Tryd.ntmps23
    go_wp2_with fail
    refine H.out.mono ?_
    rintro e w1 ⟨rfl, hb⟩
    have HB := Lib.hid hb
    clear hb
    go_wp2
    go_ret2
    exact ⟨rfl, HB.out⟩
  | some n =>
    rw [hr] at H
    go_enter Tryd.func23, Tryd.ntmps23
    go_wp2_with fail
    refine H.out.mono ?_
    rintro e w1 ⟨rfl, hb⟩
    have HB := Lib.hid hb
    clear hb
    go_wp2
    go_ret2
    exact ⟨rfl, HB.out⟩

theorem law_ReadDecimal (w : World) (s : ByteArray) (hs : s.size ≤ maxLen) (ht : Tb w) (he : Errs w) : Calls Tryd.prog 7 #[.string s] w (fun e w' => e = .returned (.bool true) ∧ Below w.heap.size w w') := by
  have hm := hs
  unfold maxLen at hm
  by_cases hlong : 1048576 < s.size
  · go_enter Tryd.func7, Tryd.ntmps7
    go_wp2
    go_ret
    exact ⟨rfl, Below.refl _ _⟩
  have HS := Lib.hid (spec_ReadDecimal w s hs)
  have HI := Lib.hid (fun w => impl_ReadDecimal s (by omega) w)
  have HT := Lib.hid ht; have HE := Lib.hid he
  clear ht he
  obtain ⟨n, b, hr⟩ : ∃ n b, rdV s = .tuple #[.int .i64 n, .bool b] := by
    unfold rdV
    cases rd s with
    | none => exact ⟨_, _, rfl⟩
    | some n => exact ⟨_, _, rfl⟩
  rw [hr] at HS HI
  clear hr
  go_enter Tryd.func7, Tryd.ntmps7
  go_wp2_with fail
  refine HS.out.mono ?_
  rintro e w1 ⟨rfl, hb⟩
  have HB := Lib.hid hb
  have HT1 := Lib.hid (HT.out.later hb); have HE1 := Lib.hid (HE.out.later hb)
  clear hb HT HE
  go_wp2_with fail
  refine (HI.out _ HE1.out HT1.out).mono ?_
  rintro e w2 ⟨rfl, hb⟩
  replace HB := Lib.hid (HB.out.trans (hb.mono HB.out.size))
  clear hb
  cases b
  · go_wp2
    go_ret
    exact ⟨rfl, HB.out⟩
  · go_wp2
    go_ret
    exact ⟨rfl, HB.out⟩

end Go.Proofs.YtcaceplnlfmejaaDoor
