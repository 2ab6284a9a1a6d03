/- NumbersText: the law. -/
import Derived.Test.YtcaceplnlfmejaaDoorWt29
namespace Go.Proofs.YtcaceplnlfmejaaDoor
open Fl Go.RowKit

set_option maxRecDepth 20000 in
theorem law_NumbersText (w : World) (v : Value) (zs : List Nat) (h : FS w v zs) (hw : ∀ z ∈ zs, W32 z) (ht : TzC w) : Calls Tryd.prog 6 #[v] w (fun e w' => e = .returned (.bool true) ∧ Below w.heap.size w w') := by
  have H := Lib.hid h
  obtain ⟨a, len, cap, rfl⟩ := h.shape
  obtain ⟨rfl, hm, _⟩ := h.at
  unfold maxLen at hm
  clear h
  by_cases hlong : 1048576 < zs.length
  · go_enter Tryd.func6, Tryd.ntmps6
    go_wp2
    go_ret
    exact ⟨rfl, Below.refl _ _⟩
  have hl : zs.length ≤ 1048576 := by omega
  have HT := Lib.hid ht
  clear ht
  obtain ⟨t, b, hr⟩ : ∃ t b, ntV zs = .tuple #[.string t, .bool b] := ⟨_, _, rfl⟩
  have HC := Lib.hid (fun (w' : World) h => toFloat32S_any w' (.slice a zs.length cap) zs h hl)
  have HS := Lib.hid (fun (w' : World) v h => spec_NumbersText w' v zs h hw)
  have HI := Lib.hid (fun (w' : World) v h h2 => impl_NumbersText w' v zs h hw h2)
  have HE := Lib.hid (fun (w' : World) v v' h h2 => eqFloat32S_true w' v v' zs zs h h2 rfl (fun _ _ => rfl))
  rw [hr] at HS HI
  clear hr hw
  go_enter Tryd.func6, Tryd.ntmps6
  go_wp2_with fail
  refine (HC.out w H.out).mono ?_
  rintro e w1 ⟨v1, rfl, ho, hb⟩
  have HB := Lib.hid hb
  have X1 := Lib.hid ho.FS
  clear hb ho
  go_wp2_with fail
  refine (HS.out w1 _ X1.out.toX).mono ?_
  rintro e w2 ⟨rfl, hb⟩
  have hsz := HB.out.size
  replace HB := Lib.hid (HB.out.trans (hb.mono hsz))
  clear hb X1 hsz
  go_wp2_with fail
  refine (HC.out w2 (H.out.later HB.out)).mono ?_
  rintro e w3 ⟨v3, rfl, ho, hb⟩
  have hsz := HB.out.size
  replace HB := Lib.hid (HB.out.trans (hb.mono hsz))
  have X3 := Lib.hid ho.FS
  clear hb ho hsz
  go_wp2_with fail
  refine (HI.out w3 _ X3.out.toX (HT.out.later HB.out)).mono ?_
  rintro e w4 ⟨rfl, hb⟩
  have hsz := HB.out.size
  replace HB := Lib.hid (HB.out.trans (hb.mono hsz))
  have X4 := Lib.hid (X3.out.later hb)
  clear hb X3 hsz
  have hbb : (b != b) = false := by cases b <;> rfl
  go_wp2_with fail
  refine (HC.out w4 (H.out.later HB.out)).mono ?_
  rintro e w5 ⟨v5, rfl, ho, hb⟩
  have hsz := HB.out.size
  replace HB := Lib.hid (HB.out.trans (hb.mono hsz))
  have X5 := Lib.hid (X4.out.later hb)
  have Y5 := Lib.hid ho.FS
  clear hb ho X4 hsz
  go_wp2_with fail
  refine (HE.out w5 _ _ X5.out Y5.out).mono ?_
  rintro e w6 ⟨rfl, k, hw⟩
  replace HB : Hid (Below w.heap.size w w6) := Lib.hid (by rw [hw]; exact below_dn4 HB.out k)
  clear hw
  go_wp2
  go_ret
  exact ⟨rfl, HB.out⟩

end Go.Proofs.YtcaceplnlfmejaaDoor
