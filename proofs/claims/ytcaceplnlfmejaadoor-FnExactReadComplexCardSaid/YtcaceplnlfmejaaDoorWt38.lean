/- ReadNumbers: marks in lists of numbers; the law. -/
import Derived.Test.YtcaceplnlfmejaaDoorWt37
import Derived.Test.YtcaceplnlfmejaaDoorWt23
namespace Go.Proofs.YtcaceplnlfmejaaDoor
open Fl Go.RowKit

theorem drew_below {w w' : World} {n : Nat} (h : w' = w.drewN n) : Below w.heap.size w w' := by rw [h]; exact below_dn4 (Below.refl _ _) n
theorem XS.toF {w : World} {v : Value} {zs : List Nat} (h : XS fF w v zs) : FS w v zs := by
  obtain ⟨a, len, cap, rfl, hl, hm, h⟩ := h
  refine ⟨a, len, cap, rfl, hl, hm, ?_⟩
  rcases h with h | ⟨b, off, rfl, hb, hc⟩
  · exact .inl h
  · refine .inr ⟨b, off, rfl, hb, fun i hi => ?_⟩
    exact hc i _ (by simp [List.getD, List.getElem?_eq_getElem (show i < zs.length by omega)])
def Mf (k0 : Int) (i : Nat) : Value := .float .f32 (floatOfInt .f32 (k0 + i))
theorem mark_same (n : Int) : (FloatKind.f32.format.order (floatOfInt .f32 n) (floatOfInt .f32 n) != some .eq) = false := by
  rw [ne_self]
  show nan FloatKind.f32.format (FloatKind.f32.nearest n) = false
  unfold FloatKind.nearest FloatKind.encode
  exact write_not_nan rfl

theorem markFloat32S_own (w : World) (v : Value) (lo n : Nat) (xs : List Value) (k0 : Int) (h : w.ownsRow lo 55 1 v n xs) (hn : n ≤ 1048576) (h0 : 0 ≤ k0) (h1 : k0 ≤ 4194304) :
    Calls Tryd.prog 31 #[v, .int .i64 k0] w (fun e w' => e = .returned (.int .i64 (k0 + n)) ∧ w'.ownsRow lo 55 1 v n (mkL (Mf k0) xs n) ∧ w.grownBy w' v.ownBlock) := by
  have hx := h.1
  rw [Nat.mul_one] at hx
  rcases h.2 with ⟨rfl, rfl⟩ | ⟨g, cap, cur, rfl, hlo, hg, hnc, hcm, _⟩
  · have H := Lib.hid h; clear h hx
    go_enter Tryd.func31, Tryd.ntmps31
    go_wp2_with fail
    go_loopw [1, 5] (fun k i wr => k = .int .i64 k0 ∧ i = .int .i64 0 ∧ wr = w) (fun _ _ _ => 0)
    case atStart => exact ⟨rfl, rfl, rfl⟩
    case round =>
      obtain ⟨rfl, rfl, rfl⟩ := hrel
      go_wp2
      go_ret
      exact ⟨by simp, H.out, gb_refl _ _⟩
  · have H := Lib.hid h; have HX := Lib.hid hx; have HLO := Lib.hid hlo
    unfold maxLen at hcm
    clear h hx hg hlo
    have hn' : (n : Int) ≤ 1048576 := by omega
    go_enter Tryd.func31, Tryd.ntmps31
    go_wp2_with fail
    go_loopw [1, 5] (fun k i wr => ∃ j : Nat, j ≤ n ∧ k = .int .i64 (k0 + j) ∧ i = .int .i64 j ∧ wr.ownsRow lo 55 1 (.slice (some ⟨g, 0, none⟩) n cap) n (mkL (Mf k0) xs j) ∧ w.grownBy wr (some g)) (fun _ i _ => n - (intOf i).toNat)
    case atStart => exact ⟨0, Nat.zero_le _, by simp, rfl, H.out, gb_refl _ _⟩
    case round =>
      obtain ⟨j, hj, rfl, rfl, hown, hgr⟩ := hrel
      by_cases hlt : j < n
      · obtain ⟨u, hu⟩ : ∃ u, (mkL (Mf k0) xs j)[j]? = some u := by
          rw [mkL_get _ _ _ _ (by rw [HX.out]; exact hlt), if_neg (Nat.lt_irrefl _)]
          exact ⟨_, List.getElem?_eq_getElem (by rw [HX.out]; exact hlt)⟩
        have ho : wr.cell? ⟨g, j, none⟩ = some u := (hown.cellAt j (by omega)).trans hu
        have hf : wr.frozen? ⟨g, j, none⟩ = false := hown.frozenAt j
        have hst := hown.stored j (Mf k0 j)
        have HS := Lib.hid (show _ ∧ _ from ⟨hst.1, gb_trans hgr (gb_set wr g j (Mf k0 j))⟩)
        clear hst hown hgr hu
        have hlt' : (j : Int) < n := by omega
        go_wp2
        go_roundw
        case rel => exact ⟨j + 1, by omega, by go_num, by go_num, HS.out.1, HS.out.2⟩
        case measure => simp [intOf]; omega
      · have hjn : j = n := by omega
        subst hjn
        have HS := Lib.hid (show _ ∧ _ from ⟨hown, hgr⟩)
        clear hown hgr
        go_wp2
        go_ret
        exact ⟨rfl, HS.out.1, HS.out.2⟩

theorem heldFloat32S_own (w : World) (v : Value) (lo n : Nat) (xs : List Value) (k0 : Int) (h : w.ownsRow lo 55 1 v n xs) (hm : ∀ i, i < n → xs[i]? = some (Mf k0 i)) (hn : n ≤ 1048576) (h0 : 0 ≤ k0) (h1 : k0 ≤ 4194304) :
    Calls Tryd.prog 32 #[v, .int .i64 k0] w (Ret (.int .i64 (k0 + n)) w) := by
  rcases h.2 with ⟨rfl, rfl⟩ | ⟨g, cap, cur, rfl, hlo, hg, hnc, hcm, _⟩
  · clear h hm
    go_enter Tryd.func32, Tryd.ntmps32
    go_wp2_with fail
    go_loopw [1, 5] (fun k i wr => k = .int .i64 k0 ∧ i = .int .i64 0 ∧ wr = w) (fun _ _ _ => 0)
    case atStart => exact ⟨rfl, rfl, rfl⟩
    case round =>
      obtain ⟨rfl, rfl, rfl⟩ := hrel
      go_wp2
      go_ret
      exact .mk' 0 (by simp) rfl
  · have H := Lib.hid h; have HM := Lib.hid hm
    unfold maxLen at hcm
    clear h hm hg hlo
    have hn' : (n : Int) ≤ 1048576 := by omega
    go_enter Tryd.func32, Tryd.ntmps32
    go_wp2_with fail
    go_loopw [1, 5] (fun k i wr => ∃ j m : Nat, j ≤ n ∧ k = .int .i64 (k0 + j) ∧ i = .int .i64 j ∧ wr = w.drewN m) (fun _ i _ => n - (intOf i).toNat)
    case atStart => exact ⟨0, 0, Nat.zero_le _, by simp, rfl, rfl⟩
    case round =>
      obtain ⟨j, m, hj, rfl, rfl, rfl⟩ := hrel
      by_cases hlt : j < n
      · obtain ⟨z, ez⟩ : ∃ z, floatOfInt .f32 (k0 + (j : Int)) = z := ⟨_, rfl⟩
        have hc : w.cell? ⟨g, j, none⟩ = some (.float .f32 z) := by rw [← ez]; exact (H.out.cellAt j (by omega)).trans (HM.out j hlt)
        have hz := mark_same (k0 + (j : Int))
        rw [ez] at hz
        have hlt' : (j : Int) < n := by omega
        go_wp2
        go_roundw
        case rel => exact ⟨j + 1, _, by omega, by go_num, by go_num, (by first | rfl | simp only [World.drewN_drewN])⟩
        case measure => simp [intOf]; omega
      · have hjn : j = n := by omega
        subst hjn
        go_wp2
        go_ret
        exact .mk' _ rfl rfl

theorem rnL_len (s : ByteArray) : (rnL s).length ≤ 256 := by
  cases h : rnOk s with
  | false => rw [rnL_no h]; simp
  | true =>
    rw [rnL_yes h]
    have h2 : (wordsB s).length ≤ 256 := by simp [rnOk] at h; exact h.2
    exact Nat.le_trans (List.length_filterMap_le _ _) h2

set_option maxRecDepth 20000 in
set_option maxHeartbeats 1600000 in
theorem law_ReadNumbers (w : World) (s : ByteArray) (hs : s.size ≤ maxLen) (ht : TzC w) (he : Errs w) (hm : MaxL w) : Calls Tryd.prog 9 #[.string s] w (fun e w' => e = .returned (.bool true) ∧ Below w.heap.size w w') := by
  have hmx := hs
  unfold maxLen at hmx
  by_cases hlong : 1048576 < s.size
  · go_enter Tryd.func9, Tryd.ntmps9
    go_wp2
    go_ret
    exact ⟨rfl, Below.refl _ _⟩
  have hl : s.size ≤ 1048576 := by omega
  have HT := Lib.hid ht; have HE := Lib.hid he; have HM := Lib.hid hm
  have HS := Lib.hid (fun (w : World) => spec_ReadNumbers w s hl)
  have HI := Lib.hid (fun (w : World) hm ht he => impl_ReadNumbers w s hl hm ht he)
  have HN := rnL_len s
  unfold RetF at HS HI
  generalize rnL s = zs at *
  obtain ⟨ok, hok⟩ : ∃ ok, rnOk s = ok := ⟨_, rfl⟩
  rw [hok] at HS HI
  have hn1 : (zs.length : Int) ≤ 256 := by omega
  have hn2 : zs.length ≤ 1048576 := by omega
  have HN2 := Lib.hid hn2
  have hbb : (ok != ok) = false := by cases ok <;> rfl
  clear hok ht he hm hn2
  have HB : Hid (Below w.heap.size w w) := Lib.hid (Below.refl _ _)
  go_enter Tryd.func9, Tryd.ntmps9
  go_wp2_with fail
  refine (HS.out _).mono ?_
  rintro e w1 ⟨aW, cW, rfl, ho, hb⟩
  replace HB := Lib.hid (HB.out.trans (hb.mono HB.out.size))
  have OW := Lib.hid ho
  have hs1 : w.heap.size ≤ w1.heap.size := hb.size
  clear ho hb
  go_wp2_with fail
  refine (HI.out _ (HM.out.later HB.out) (HT.out.later HB.out) (HE.out.later HB.out)).mono ?_
  rintro e w2 ⟨aG, cG, rfl, ho, hb⟩
  have NWG := Lib.hid (ne_of (v := .slice aW zs.length cW) (v' := .slice aG zs.length cG) (fun g hg => (own_lt OW.out hg).2) (fun g hg => (own_lt ho hg).1) (Nat.le_refl _))
  have BG : Hid (∀ g, (Value.slice aG zs.length cG).ownBlock = some g → w.heap.size ≤ g) := Lib.hid (fun g hg => Nat.le_trans hs1 (own_lt ho hg).1)
  replace HB := Lib.hid (HB.out.trans (hb.mono HB.out.size))
  replace OW := Lib.hid (OW.out.later hb)
  have OG := Lib.hid ho
  clear ho hb hs1
  go_wp2_with fail
  refine (eqFloat32S_true _ _ _ zs zs OG.out.XS.toF OW.out.XS.toF rfl (fun _ _ => rfl)).mono ?_
  rintro e w3 ⟨rfl, q0, hw⟩
  have hb := drew_below hw; clear hw
  replace HB := Lib.hid (HB.out.trans (hb.mono HB.out.size))
  replace OW := Lib.hid (OW.out.later hb)
  replace OG := Lib.hid (OG.out.later hb)
  clear hb
  go_wp2_with fail
  have HG2 : Hid (w3.ownsRow w1.heap.size 55 1 (.slice aG zs.length cG) zs.length (zs.map fF)) := OG
  refine (markFloat32S_own _ _ _ _ _ 1 HG2.out HN2.out (by omega) (by omega)).mono ?_
  rintro e w4 ⟨rfl, ho, hg⟩
  replace HB := Lib.hid (below_gb HB.out hg HB.out.size (fun k hk => BG.out k hk))
  have OW4 : Hid (OwnX fF 55 w4 w.heap.size (.slice aW zs.length cW) zs) := Lib.hid (World.ownsRow.kept OW.out hg NWG.out)
  have OM := Lib.hid ho
  have HMK : Hid (∀ i, i < zs.length → (mkL (Mf 1) (zs.map fF) zs.length)[i]? = some (Mf 1 i)) := Lib.hid (fun i hi => by have := mkL_all (Mf 1) (zs.map fF) (i := i) (by simpa using hi); simpa using this)
  clear ho hg OG OW HG2 NWG BG
  go_wp2_with fail
  refine (heldFloat32S_own _ _ _ _ _ 1 OM.out HMK.out HN2.out (by omega) (by omega)).mono ?_
  rintro e w5 ⟨rfl, q0, hw⟩
  have hb := drew_below hw; clear hw
  replace HB := Lib.hid (HB.out.trans (hb.mono HB.out.size))
  have OW5 := Lib.hid (OW4.out.later hb)
  have OM5 := Lib.hid (row_later OM.out hb)
  clear hb OW4 OM
  go_wp2_with fail
  refine (HI.out _ (HM.out.later HB.out) (HT.out.later HB.out) (HE.out.later HB.out)).mono ?_
  rintro e w6 ⟨aH, cH, rfl, ho, hb⟩
  replace HB := Lib.hid (HB.out.trans (hb.mono HB.out.size))
  have OW6 := Lib.hid (OW5.out.later hb)
  have OM6 := Lib.hid (row_later OM5.out hb)
  have OH := Lib.hid ho
  clear hb ho OW5 OM5
  go_wp2_with fail
  refine (eqFloat32S_true _ _ _ zs zs OH.out.XS.toF OW6.out.XS.toF rfl (fun _ _ => rfl)).mono ?_
  rintro e w7 ⟨rfl, q0, hw⟩
  have hb := drew_below hw; clear hw
  replace HB := Lib.hid (HB.out.trans (hb.mono HB.out.size))
  have OM7 := Lib.hid (row_later OM6.out hb)
  clear hb OW6 OH OM6
  go_wp2_with fail
  refine (heldFloat32S_own _ _ _ _ _ 1 OM7.out HMK.out HN2.out (by omega) (by omega)).mono ?_
  rintro e w8 ⟨rfl, q0, hw⟩
  have hb := drew_below hw; clear hw
  replace HB := Lib.hid (HB.out.trans (hb.mono HB.out.size))
  clear hb
  go_wp2
  go_ret
  exact ⟨rfl, HB.out⟩

end Go.Proofs.YtcaceplnlfmejaaDoor
