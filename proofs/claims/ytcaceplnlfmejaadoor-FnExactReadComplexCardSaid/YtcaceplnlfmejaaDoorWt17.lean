/- ListText: the law. -/
import Derived.Test.YtcaceplnlfmejaaDoorWt16
namespace Go.Proofs.YtcaceplnlfmejaaDoor
open Go.RowKit
open Lib (itoa decDigits parseIntB)

theorem spec_ListText (w : World) (v : Value) (zs : List Int) (h : XS fI w v zs) :
    Calls Tryd.prog 15 #[v] w (fun e w' => e = .returned (ltV zs) ∧ Below w.heap.size w w') := by
  have HL := Lib.hid (spec_l01List w v zs h)
  have HT := Lib.hid (fun w' h => spec_l01Text w' v zs h)
  have H := Lib.hid h
  obtain ⟨a, len, cap, rfl⟩ := h.shape
  clear h
  cases hok : okL zs with
  | false =>
    have HR := Lib.hid (ltV_no zs hok)
    rw [hok] at HL
    clear hok HT H
    go_enter Tryd.func15, Tryd.ntmps15
    go_wp2_with fail
    refine HL.out.mono ?_
    rintro e w1 ⟨rfl, hb⟩
    have HB := Lib.hid hb
    clear hb HL
    go_wp2
    go_ret2
    exact ⟨by rw [HR.out]; first | done | rfl, HB.out⟩
  | true =>
    have HR := Lib.hid (ltV_yes zs hok)
    rw [hok] at HL
    have HT' := Lib.hid (fun w' h => HT.out w' h hok)
    clear hok HT
    generalize txB zs = t at *
    go_enter Tryd.func15, Tryd.ntmps15
    go_wp2_with fail
    refine HL.out.mono ?_
    rintro e w1 ⟨rfl, hb⟩
    have HB := Lib.hid hb
    have H1 := Lib.hid (H.out.later hb)
    have hsz := hb.size
    clear hb HL
    go_wp2_with fail
    refine (HT'.out _ H1.out).mono ?_
    rintro e w2 ⟨rfl, hb⟩
    replace HB := Lib.hid (HB.out.trans (hb.mono hsz))
    clear hb
    go_wp2
    go_ret2
    exact ⟨by rw [HR.out]; first | done | rfl, HB.out⟩

set_option maxRecDepth 20000 in
theorem law_ListText (w : World) (v : Value) (zs : List Int) (h : XS fI w v zs) (ht : Tb w) : Calls Tryd.prog 5 #[v] w (fun e w' => e = .returned (.bool true) ∧ Below w.heap.size w w') := by
  have H := Lib.hid h
  obtain ⟨a, len, cap, rfl⟩ := h.shape
  obtain ⟨rfl, hm, _⟩ := h.at
  unfold maxLen at hm
  clear h
  by_cases hlong : 1048576 < zs.length
  · go_enter Tryd.func5, Tryd.ntmps5
    go_wp2
    go_ret
    exact ⟨rfl, Below.refl _ _⟩
  have hl : zs.length ≤ 1048576 := by omega
  have HT := Lib.hid ht
  clear ht
  obtain ⟨t, b, hr⟩ : ∃ t b, ltV zs = .tuple #[.string t, .bool b] := ⟨_, _, rfl⟩
  have HC := Lib.hid (fun (w' : World) h => toInt64S_any w' (.slice a zs.length cap) zs h hl)
  have HS := Lib.hid (fun (w' : World) v h => spec_ListText w' v zs h)
  have HI := Lib.hid (fun (w' : World) v h h2 => impl_ListText w' v zs h h2)
  have HE := Lib.hid (fun (w' : World) v v' h h2 => eqInt64S_true w' v v' zs h h2)
  rw [hr] at HS HI
  clear hr
  go_enter Tryd.func5, Tryd.ntmps5
  go_wp2_with fail
  refine (HC.out w H.out).mono ?_
  rintro e w1 ⟨a1, c1, rfl, ho, hb⟩
  have HB := Lib.hid hb
  have H1 := Lib.hid (H.out.later hb)
  have T1 := Lib.hid (HT.out.later hb)
  have X1 := Lib.hid ho.XS
  clear hb ho H HT
  go_wp2_with fail
  refine (HS.out w1 _ X1.out).mono ?_
  rintro e w2 ⟨rfl, hb⟩
  have hsz := HB.out.size
  replace HB := Lib.hid (HB.out.trans (hb.mono hsz))
  have H2 := Lib.hid (H1.out.later hb)
  have T2 := Lib.hid (T1.out.later hb)
  clear hb H1 T1 X1 hsz
  go_wp2_with fail
  refine (HC.out w2 H2.out).mono ?_
  rintro e w3 ⟨a3, c3, rfl, ho, hb⟩
  have hsz := HB.out.size
  replace HB := Lib.hid (HB.out.trans (hb.mono hsz))
  have H3 := Lib.hid (H2.out.later hb)
  have T3 := Lib.hid (T2.out.later hb)
  have X3 := Lib.hid ho.XS
  clear hb ho H2 T2 hsz
  go_wp2_with fail
  refine (HI.out w3 _ X3.out T3.out).mono ?_
  rintro e w4 ⟨rfl, hb⟩
  have hsz := HB.out.size
  replace HB := Lib.hid (HB.out.trans (hb.mono hsz))
  have H4 := Lib.hid (H3.out.later hb)
  have X4 := Lib.hid (X3.out.later hb)
  clear hb H3 X3 T3 hsz
  have hbb : (b != b) = false := by cases b <;> rfl
  go_wp2_with fail
  refine (HC.out w4 H4.out).mono ?_
  rintro e w5 ⟨a5, c5, rfl, ho, hb⟩
  have hsz := HB.out.size
  replace HB := Lib.hid (HB.out.trans (hb.mono hsz))
  have X5 := Lib.hid (X4.out.later hb)
  have Y5 := Lib.hid ho.XS
  clear hb ho H4 X4 hsz
  go_wp2_with fail
  refine (HE.out w5 _ _ X5.out Y5.out).mono ?_
  rintro e w6 ⟨rfl, hb⟩
  have hsz := HB.out.size
  replace HB := Lib.hid (HB.out.trans (hb.mono hsz))
  clear hb hsz
  go_wp2
  go_ret
  exact ⟨rfl, HB.out⟩

end Go.Proofs.YtcaceplnlfmejaaDoor
