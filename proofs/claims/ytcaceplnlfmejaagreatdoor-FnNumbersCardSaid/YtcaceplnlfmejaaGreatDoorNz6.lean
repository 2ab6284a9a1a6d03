/- The law of numbers, walked. -/
import Derived.Test.YtcaceplnlfmejaaGreatDoorNz5
import Derived.Test.YtcaceplnlfmejaaGreatDoorNz4
namespace Go.Proofs.YtcaceplnlfmejaaGreatDoor
open Fl Go.RowKit Ieee

theorem quarter_word : tr .f64 .f32 (sineW (tr .f32 .f64 1048576000)) = 1065353216 := by decide +kernel
theorem quarter_small : small (tr .f32 .f64 1048576000) := by unfold small fin; decide +kernel
theorem quarter : sinC 1048576000 = some 1065353216 := by rw [sinC_small (by decide) quarter_small, quarter_word]
theorem cls_one {r : Nat} (h : cls .f32 r = some 1065353216) : r = 1065353216 := by
  unfold cls at h
  split at h
  · cases h
  · exact Option.some.inj h
theorem XS.toFS {w : World} {v : Value} {zs : List Nat} (h : XS fF w v zs) : FS w v zs := by
  obtain ⟨a, len, cap, rfl, hl, hm, h⟩ := h
  refine ⟨a, len, cap, rfl, hl, hm, ?_⟩
  rcases h with h | ⟨b, off, rfl, hb, hc⟩
  · exact .inl h
  · refine .inr ⟨b, off, rfl, hb, fun i hi => ?_⟩
    rw [hc i zs[i] (by simp [hl, hi])]
    simp [List.getD, hl, hi]
theorem tx_size (zs : List Nat) (h : zs.length ≤ 12) : (txF zs).size ≤ 1048576 := by
  unfold txF
  split
  · decide
  · rename_i h0
    have hp : 0 < zs.length := List.length_pos_iff.2 h0
    have := jf_len zs zs.length hp (Nat.le_refl _)
    show (jf zs zs.length).toArray.size ≤ 1048576
    simp
    omega

set_option maxRecDepth 20000 in
set_option maxHeartbeats 3200000 in
theorem law_FnNumbers (w : World) (v0 v1 : Value) (code more : List Int) (h0 : BS w v0 code) (h1 : BS w v1 more) (ht : TzC w) (he : Errs w) (hm : MaxL w) :
    Calls Tryz.prog 4 #[v0, v1] w (RetB (.bool true) w) := by
  have B0 := Lib.hid h0; have B1 := Lib.hid h1
  obtain ⟨a0, l0, c0, rfl⟩ := h0.sl.shape
  obtain ⟨a1, l1, c1, rfl⟩ := h1.sl.shape
  obtain ⟨rfl, _, _⟩ := h0.sl.at
  obtain ⟨rfl, _, _⟩ := h1.sl.at
  clear h0 h1
  have HT := Lib.hid ht; have HE := Lib.hid he; have HM := Lib.hid hm
  clear ht he hm
  obtain ⟨lg, hlg⟩ : ∃ b, (decide (1048576 < (code.length : Int)) || decide (1048576 < (more.length : Int))) = b := ⟨_, rfl⟩
  have HLG := Lib.hid hlg
  cases lg
  · have HL : Hid (code.length ≤ 1048576 ∧ more.length ≤ 1048576) := Lib.hid (by simp at hlg; omega)
    clear hlg
    go_enter Tryz.func4, Tryz.ntmps4
    go_wp2_with fail
    refine (laws_b10Long _ _ _ _ _ _ _).mono ?_
    rintro e w1 ⟨rfl, n1, hw⟩
    rw [HLG.out]
    have HB : Hid (Below w.heap.size w w1) := Lib.hid (by rw [hw]; exact below_dn (Below.refl _ _) _)
    clear hw
    go_wp2_with fail
    refine (spec_B10Number _ _ code (B0.out.later HB.out) HL.out.1).mono ?_
    rintro e w2 ⟨x, rfl, hx, hb⟩
    have HX := Lib.hid hx
    replace HB := Lib.hid (HB.out.trans (hb.mono HB.out.size))
    clear hb hx
    go_wp2_with fail
    refine (spec_B10Number _ _ more (B1.out.later HB.out) HL.out.2).mono ?_
    rintro e w3 ⟨y, rfl, hy, hb⟩
    have HY := Lib.hid hy
    replace HB := Lib.hid (HB.out.trans (hb.mono HB.out.size))
    clear hb hy
    go_wp2_with fail
    refine (impl_BitsOf x HX.out _).mono ?_
    rintro e w4 ⟨rfl, n2, hw⟩
    replace HB : Hid (Below w.heap.size w w4) := Lib.hid (by rw [hw]; exact below_dn HB.out _)
    clear hw
    go_wp2_with fail
    refine (impl_FromBits_yes _ (bt_range HX.out).1 (bt_range HX.out).2 _).mono ?_
    rintro e w5 ⟨rfl, n3, hw⟩
    rw [show (bt x).toNat = nb x from rfl]
    replace HB : Hid (Below w.heap.size w w5) := Lib.hid (by rw [hw]; exact below_dn HB.out _)
    clear hw
    go_wp2_with fail
    refine (impl_FlushNumber x HX.out _).mono ?_
    rintro e w6 ⟨rfl, n4, hw⟩
    replace HB : Hid (Below w.heap.size w w6) := Lib.hid (by rw [hw]; exact below_dn HB.out _)
    clear hw
    go_wp2_with fail
    refine (laws_b10At _ _ code (B0.out.later HB.out) 0 (by decide) 12 (by decide) (by decide)).mono ?_
    rintro e w7 ⟨m, rfl, hm, rfl⟩
    have HM12 := Lib.hid hm
    clear hm
    go_wp2_with fail
    refine (spec_B10Numbers _ _ more (B1.out.later HB.out) HL.out.2 m (by have := HM12.out; omega)).mono ?_
    rintro e w8 ⟨vl, zs, rfl, hxs, hzl, hzw, hb⟩
    have HX8 := Lib.hid hxs; have HZL := Lib.hid hzl; have HZW := Lib.hid hzw
    replace HB := Lib.hid (HB.out.trans (hb.mono HB.out.size))
    obtain ⟨al, ll, cl, rfl⟩ := hxs.shape
    obtain ⟨rfl, _, _⟩ := hxs.at
    clear hb hxs hzl hzw
    have hzl' : (zs.length : Int) ≤ 12 := by have := HZL.out; omega
    go_wp2_with fail
    go_loopw [11, 41] (fun s i wr => ∃ k n r : Nat, k ≤ zs.length ∧ i = .int .i64 k ∧ s = .float .f32 r ∧ W32 r ∧ cls .f32 r = sumC zs k ∧ wr = w8.drewN n) (fun _ i _ => zs.length - (intOf i).toNat)
    case atStart => exact ⟨0, 0, 0, Nat.zero_le _, rfl, rfl, by unfold W32; decide, cls_zero _, rfl⟩
    case round =>
      obtain ⟨k, n, r, hk, rfl, rfl, hr, hcr, hwr⟩ := hrel
      have HR := Lib.hid hr; have HCR := Lib.hid hcr; have HWR := Lib.hid hwr
      clear hr hcr
      by_cases hlt : k < zs.length
      · obtain ⟨b, off, rfl, hb, hc0⟩ := HX8.out.toFS.at.2.2.out k hlt
        have hc1 : wr.cell? ⟨b, off + k, none⟩ = some (.float .f32 (zs.getD k 0)) := by rw [hwr]; exact hc0
        have HS := Lib.hid (show sumC zs (k + 1) = cop .add .f32 (sumC zs k) (cls .f32 (zs.getD k 0)) from rfl)
        generalize zs.getD k 0 = z at *
        clear hwr hc0
        go_wp2
        go_roundw
        case rel => exact ⟨k + 1, _, _, by omega, by go_num, rfl, fa_lt .add .f32 _ _ _, by rw [cls_fa, HS.out, HCR.out], by rw [HWR.out, World.drewN_drewN]⟩
        case measure => simp [intOf]; omega
      · have hkl : k = zs.length := by omega
        subst hkl
        replace HB : Hid (Below w.heap.size w wr) := Lib.hid (by rw [hwr]; exact below_dn HB.out _)
        have HX9 : Hid (XS fF wr (.slice al zs.length cl) zs) := Lib.hid (by rw [hwr]; exact HX8.out.later (below_dn (Below.refl _ _) _))
        clear hwr hlt hk HX8
        have HQ := Lib.hid (rn_tx zs HZW.out (by have := HZL.out; omega))
        have HQS := Lib.hid (tx_size zs HZL.out)
        go_wp2_with fail
        refine (impl_SumNumbers_yes _ _ zs HX9.out.toFS (by have := HZL.out; omega)).mono ?_
        rintro e w9 ⟨q, n5, rfl, hq, hcq, hw⟩
        have HQW : Hid (W32 q) := Lib.hid hq
        have HQC := Lib.hid (same_cls (hcq.trans HCR.out.symm))
        replace HB : Hid (Below w.heap.size w w9) := Lib.hid (by rw [hw]; exact below_dn HB.out _)
        replace HX9 : Hid (XS fF w9 (.slice al zs.length cl) zs) := Lib.hid (by rw [hw]; exact HX9.out.later (below_dn (Below.refl _ _) _))
        clear hw hq hcq
        go_wp2_with fail
        refine (impl_NumbersText _ _ zs HX9.out HZW.out (HT.out.later HB.out)).mono ?_
        rintro e w10 ⟨rfl, hb⟩
        rw [ntV_yes zs (by have := HZL.out; omega)]
        replace HB := Lib.hid (HB.out.trans (hb.mono HB.out.size))
        replace HX9 := Lib.hid (HX9.out.later hb)
        clear hb
        go_wp2_with fail
        refine (impl_ReadNumbers _ (txF zs) HQS.out (HM.out.later HB.out) (HT.out.later HB.out) (HE.out.later HB.out)).mono ?_
        rintro e w11 ⟨ar, cr, rfl, hown, hb⟩
        rw [HQ.out.1, HQ.out.2, List.length_map]
        rw [HQ.out.2, List.length_map] at hown
        have HXR : Hid (XS fF w11 (.slice ar zs.length cr) (zs.map nb)) := Lib.hid hown.XS
        replace HB := Lib.hid (HB.out.trans (hb.mono HB.out.size))
        replace HX9 := Lib.hid (HX9.out.later hb)
        clear hb hown
        go_wp2_with fail
        refine (spec_SameNumber _ _ (nb_lt HX.out) HX.out _).mono ?_
        rintro e w12 ⟨rfl, n6, hw⟩
        rw [same_nb]
        replace HB : Hid (Below w.heap.size w w12) := Lib.hid (by rw [hw]; exact below_dn HB.out _)
        replace HX9 : Hid (XS fF w12 (.slice al zs.length cl) zs) := Lib.hid (by rw [hw]; exact HX9.out.later (below_dn (Below.refl _ _) _))
        replace HXR : Hid (XS fF w12 (.slice ar zs.length cr) (zs.map nb)) := Lib.hid (by rw [hw]; exact HXR.out.later (below_dn (Below.refl _ _) _))
        clear hw
        go_wp2_with fail
        refine (impl_IsSubnormal _ (flush_lt x HX.out) _).mono ?_
        rintro e w13 ⟨rfl, n7, hw⟩
        rw [sub_flush x HX.out]
        replace HB : Hid (Below w.heap.size w w13) := Lib.hid (by rw [hw]; exact below_dn HB.out _)
        replace HX9 : Hid (XS fF w13 (.slice al zs.length cl) zs) := Lib.hid (by rw [hw]; exact HX9.out.later (below_dn (Below.refl _ _) _))
        replace HXR : Hid (XS fF w13 (.slice ar zs.length cr) (zs.map nb)) := Lib.hid (by rw [hw]; exact HXR.out.later (below_dn (Below.refl _ _) _))
        clear hw
        go_wp2_with fail
        refine (impl_IsSubnormal x HX.out _).mono ?_
        rintro e w14 ⟨rfl, n8, hw⟩
        replace HB : Hid (Below w.heap.size w w14) := Lib.hid (by rw [hw]; exact below_dn HB.out _)
        replace HX9 : Hid (XS fF w14 (.slice al zs.length cl) zs) := Lib.hid (by rw [hw]; exact HX9.out.later (below_dn (Below.refl _ _) _))
        replace HXR : Hid (XS fF w14 (.slice ar zs.length cr) (zs.map nb)) := Lib.hid (by rw [hw]; exact HXR.out.later (below_dn (Below.refl _ _) _))
        clear hw
        go_wp2_with fail
        refine (spec_SameNumber _ _ HX.out (flush_lt x HX.out) _).mono ?_
        rintro e w15 ⟨rfl, n9, hw⟩
        have hfs := flush_same x HX.out
        replace HB : Hid (Below w.heap.size w w15) := Lib.hid (by rw [hw]; exact below_dn HB.out _)
        replace HX9 : Hid (XS fF w15 (.slice al zs.length cl) zs) := Lib.hid (by rw [hw]; exact HX9.out.later (below_dn (Below.refl _ _) _))
        replace HXR : Hid (XS fF w15 (.slice ar zs.length cr) (zs.map nb)) := Lib.hid (by rw [hw]; exact HXR.out.later (below_dn (Below.refl _ _) _))
        clear hw
        generalize sub x = bs at *
        generalize same x (flush x) = bt' at *
        go_wp2_with fail
        refine (spec_SameNumber _ _ HQW.out HR.out _).mono ?_
        rintro e w16 ⟨rfl, n10, hw⟩
        rw [HQC.out]
        clear hfs
        replace HB : Hid (Below w.heap.size w w16) := Lib.hid (by rw [hw]; exact below_dn HB.out _)
        replace HX9 : Hid (XS fF w16 (.slice al zs.length cl) zs) := Lib.hid (by rw [hw]; exact HX9.out.later (below_dn (Below.refl _ _) _))
        replace HXR : Hid (XS fF w16 (.slice ar zs.length cr) (zs.map nb)) := Lib.hid (by rw [hw]; exact HXR.out.later (below_dn (Below.refl _ _) _))
        clear hw
        go_wp2_with fail
        go_loopw [113] (fun i wr' => ∃ k n : Nat, k ≤ zs.length ∧ i = .int .i64 k ∧ wr' = w16.drewN n) (fun i _ => zs.length - (intOf i).toNat)
        case atStart => exact ⟨0, 0, Nat.zero_le _, rfl, rfl⟩
        case round =>
          obtain ⟨k, n, hk, rfl, hw⟩ := hrel
          have HW := Lib.hid hw
          by_cases hlt : k < zs.length
          · obtain ⟨z, hz⟩ := at_of_lt hlt
            obtain ⟨b, off, rfl, hb, hc0⟩ := HX9.out.at.2.2.out k z hz
            obtain ⟨b', off', rfl, hb', hc0'⟩ := HXR.out.at.2.2.out k (nb z) (by rw [List.getElem?_map, hz]; rfl)
            have HZ1 := Lib.hid (HZW.out z (List.mem_of_getElem? hz))
            have hc1 : wr.cell? ⟨b, off + k, none⟩ = some (.float .f32 z) := by rw [hw]; exact hc0
            have hc1' : wr.cell? ⟨b', off' + k, none⟩ = some (.float .f32 (nb z)) := by rw [hw]; exact hc0'
            clear hc0 hc0' hz hw
            go_wp2_with fail
            refine Soft.region (fun _ _ v => v = .bool true) (by kernel_rfl) (by kernel_rfl) ?_
            iterate 8 (with_reducible refine Soft.step_k (fun K hK => ?_); go_simp; (try intro nn); with_reducible refine hK _ ?_; clear hK K)
            refine Soft.step_k (fun K hK => ?_)
            go_simp
            refine ⟨fun n1 => (spec_SameNumber _ _ (nb_lt HZ1.out) HZ1.out _).mono fun _ _ h => by rw [same_nb] at h; exact h.soft, hK _ ?_⟩
            clear hK K
            iterate 1 (with_reducible refine Soft.step_k (fun K hK => ?_); go_simp; (try intro nn); with_reducible refine hK _ ?_; clear hK K)
            refine Soft.wpSoft_nil ?_
            intro n2
            go_wp2
            go_roundw
            case rel => exact ⟨k + 1, _, by omega, by go_num, by rw [HW.out, World.drewN_drewN]⟩
            case measure => simp [intOf]; omega
          · have hkl : k = zs.length := by omega
            subst hkl
            replace HB : Hid (Below w.heap.size w wr) := Lib.hid (by rw [hw]; exact below_dn HB.out _)
            clear hw HW HX9 HXR hlt hk
            go_wp2_with fail
            refine (impl_AngleTurnsW _ _ _).mono ?_
            rintro e w17 ⟨r1, rfl, hc1, hb, hr1⟩
            have HR1 : Hid (W32 r1) := Lib.hid hr1
            have HC1 := Lib.hid hc1
            replace HB := Lib.hid (HB.out.trans (hb.mono HB.out.size))
            clear hb hc1 hr1
            go_wp2_with fail
            refine (impl_AngleOf _ _ _).mono ?_
            rintro e w18 ⟨r2, rfl, hc2, hb, hr2⟩
            have HR2 : Hid (W32 r2) := Lib.hid hr2
            have HS := Lib.hid (same_cls (HC1.out.trans hc2.symm))
            replace HB := Lib.hid (HB.out.trans (hb.mono HB.out.size))
            clear hb hc2 hr2
            go_wp2_with fail
            refine (spec_SameNumber _ _ HR1.out HR2.out _).mono ?_
            rintro e w19 ⟨rfl, n11, hw⟩
            rw [HS.out]
            replace HB : Hid (Below w.heap.size w w19) := Lib.hid (by rw [hw]; exact below_dn HB.out _)
            clear hw
            go_wp2_with fail
            refine (impl_NarrowNumber _ _).mono ?_
            rintro e w20 ⟨rfl, n12, hw⟩
            have HBK := Lib.hid (fun u u' => same_cls (cls_back x HX.out u u'))
            replace HB : Hid (Below w.heap.size w w20) := Lib.hid (by rw [hw]; exact below_dn (below_dn HB.out _) _)
            clear hw
            go_wp2_with fail
            refine (spec_SameNumber _ _ (cv_narrow_lt _ _) HX.out _).mono ?_
            rintro e w21 ⟨rfl, n13, hw⟩
            rw [HBK.out]
            replace HB : Hid (Below w.heap.size w w21) := Lib.hid (by rw [hw]; exact below_dn HB.out _)
            clear hw
            go_wp2_with fail
            refine (impl_SineTurns _ _).mono ?_
            rintro e w22 ⟨r3, rfl, hc3, n14, hw⟩
            obtain rfl := cls_one (hc3.trans quarter)
            replace HB : Hid (Below w.heap.size w w22) := Lib.hid (by rw [hw]; exact below_dn HB.out _)
            have hone : (FloatKind.f32.format.order 1065353216 1065353216 == some .eq) = true := by decide +kernel
            clear hw hc3
            go_wp2
            go_ret
            exact .mk' rfl HB.out
  · clear hlg
    go_enter Tryz.func4, Tryz.ntmps4
    go_wp2_with fail
    refine (laws_b10Long _ _ _ _ _ _ _).mono ?_
    rintro e w1 ⟨rfl, n1, rfl⟩
    rw [HLG.out]
    go_wp2
    go_ret
    exact .mk' rfl (below_dn (Below.refl _ _) _)

end Go.Proofs.YtcaceplnlfmejaaGreatDoor
