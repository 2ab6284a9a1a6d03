/- The law of products, walked. -/
import Derived.Test.YtcaceplnlfmejaaGreatDoorNx6
namespace Go.Proofs.YtcaceplnlfmejaaGreatDoor
open Fl Go.RowKit Ieee

theorem wholeV_out {v : Value} (h : wholeV v) : ∃ m n, v = .complex .f32 (iw m) (iw n) ∧ in2 m ∧ in2 n := by
  obtain ⟨m, n, rfl, a, b, c, d⟩ := h
  exact ⟨m, n, rfl, ⟨a, b⟩, c, d⟩
theorem e3_zero : E3 0 0 := ⟨by unfold W32; decide, by unfold fin; decide +kernel, by decide +kernel⟩
theorem in2_mul {a b : Int} (h : in2 a) (k : in2 b) : -40000 ≤ a * b ∧ a * b ≤ 40000 := pb (m := 200) (n := 200) h.1 h.2 k.1 k.2
theorem sum_zero {a b : Int} (h : (decide (a = 0) && decide (b = 0)) = false) : a * a + b * b ≠ 0 := by
  intro q
  have n1 := sq_nn a
  have n2 := sq_nn b
  rw [sq_zero (a := a) (by omega), sq_zero (a := b) (by omega)] at h
  cases h
theorem e3_cast {r : Nat} {m n : Int} (h : E3 r m) (e : m = n) : E3 r n := e ▸ h
theorem e3_ne {r s : Nat} {n : Int} (hr : E3 r n) (hs : E3 s n) : (FloatKind.f32.format.order r s != some .eq) = false := by
  rw [bne, e3_eq hr hs]; rfl

set_option maxRecDepth 20000 in
set_option maxHeartbeats 3200000 in
theorem law_FnProducts (w : World) (v0 v1 : Value) (code more : List Int) (h0 : BS w v0 code) (h1 : BS w v1 more) (ht : TzC w) (he : Errs w) (hm : MaxL w) :
    Calls Tryz.prog 3 #[v0, v1] w (RetB (.bool true) w) := by
  have B0 := Lib.hid h0; have B1 := Lib.hid h1
  obtain ⟨a0, l0, c0, rfl⟩ := h0.sl.shape
  obtain ⟨a1, l1, c1, rfl⟩ := h1.sl.shape
  obtain ⟨rfl, _, _⟩ := h0.sl.at
  obtain ⟨rfl, _, _⟩ := h1.sl.at
  clear h0 h1
  have HT := Lib.hid ht; have HE := Lib.hid he; have HM := Lib.hid hm
  clear ht he hm
  obtain ⟨lg, hlg⟩ : ∃ b, (decide (1048576 < (code.length : Int)) || decide (1048576 < (more.length : Int))) = b := ⟨_, rfl⟩
  have HLG := Lib.hid hlg
  cases lg
  · have HL : Hid (code.length ≤ 1048576 ∧ more.length ≤ 1048576) := Lib.hid (by simp at hlg; omega)
    clear hlg
    go_enter Tryz.func3, Tryz.ntmps3
    go_wp2_with fail
    refine (laws_b10Long _ _ _ _ _ _ _).mono ?_
    rintro e w1 ⟨rfl, n1, hw⟩
    rw [HLG.out]
    have HB : Hid (Below w.heap.size w w1) := Lib.hid (by rw [hw]; exact below_dn (Below.refl _ _) _)
    clear hw
    go_wp2_with fail
    refine (spec_B10Whole _ _ code (B0.out.later HB.out) HL.out.1).mono ?_
    rintro e w2 ⟨g2, c2, z, rfl, hc2, hz, hb⟩
    obtain ⟨am, an, rfl, ia, ja⟩ := wholeV_out hz
    clear hz
    have IA := Lib.hid ia; have JA := Lib.hid ja
    clear ia ja
    replace HB := Lib.hid (HB.out.trans (hb.mono HB.out.size))
    clear hb
    go_wp2_with fail
    refine (spec_B10Whole _ _ more (B1.out.later HB.out) HL.out.2).mono ?_
    rintro e w3 ⟨g3, c3, z, rfl, hc3, hz, hb⟩
    obtain ⟨bm, bn, rfl, ib, jb⟩ := wholeV_out hz
    clear hz hc2
    have IB := Lib.hid ib; have JB := Lib.hid jb
    clear ib jb
    replace HB := Lib.hid (HB.out.trans (hb.mono HB.out.size))
    clear hb
    go_wp2_with fail
    refine (mulE (iw am) (iw an) (iw bm) (iw bn) am an bm bn 200 200 (iw_e3 IA.out) (iw_e3 JA.out) (iw_e3 IB.out) (iw_e3 JB.out) IA.out JA.out IB.out JB.out (by decide) _).mono ?_
    rintro e w4 ⟨p1, p2, rfl, hp1, hp2, n4, hw⟩
    have HP1 := Lib.hid hp1; have HP2 := Lib.hid hp2
    clear hp1 hp2 hc3
    replace HB : Hid (Below w.heap.size w w4) := Lib.hid (by rw [hw]; exact below_dn HB.out _)
    clear hw
    have kam : ∀ w, (convert 28 2 (.float .f32 (iw am))).run Tryz.prog w = .ok (.int .i64 am) w := fun w => run_convert_float_int w _ _ _ _ _ _ (by kernel_rfl) (by kernel_rfl) (iw_to IA.out)
    have kan : ∀ w, (convert 28 2 (.float .f32 (iw an))).run Tryz.prog w = .ok (.int .i64 an) w := fun w => run_convert_float_int w _ _ _ _ _ _ (by kernel_rfl) (by kernel_rfl) (iw_to JA.out)
    have kbm : ∀ w, (convert 28 2 (.float .f32 (iw bm))).run Tryz.prog w = .ok (.int .i64 bm) w := fun w => run_convert_float_int w _ _ _ _ _ _ (by kernel_rfl) (by kernel_rfl) (iw_to IB.out)
    have kbn : ∀ w, (convert 28 2 (.float .f32 (iw bn))).run Tryz.prog w = .ok (.int .i64 bn) w := fun w => run_convert_float_int w _ _ _ _ _ _ (by kernel_rfl) (by kernel_rfl) (iw_to JB.out)
    have qambm := in2_mul IA.out IB.out
    have qanbn := in2_mul JA.out JB.out
    have qambn := in2_mul IA.out JB.out
    have qanbm := in2_mul JA.out IB.out
    have qamam := in2_mul IA.out IA.out
    have qanan := in2_mul JA.out JA.out
    have u1 : sm3 (am * bm - an * bn) := by unfold sm3; omega
    have u2 : sm3 (am * bn + an * bm) := by unfold sm3; omega
    have u3 : sm3 (am * am + an * an) := by unfold sm3; omega
    have U3 := Lib.hid u3
    have o1 : (FloatKind.f32.format.order p1 (floatOfInt .f32 (am * bm - an * bn)) == some .eq) = true := e3_eq HP1.out (e3_int u1)
    have o2 : (FloatKind.f32.format.order p2 (floatOfInt .f32 (am * bn + an * bm)) == some .eq) = true := e3_eq HP2.out (e3_int u2)
    clear u1 u2 u3
    go_wp2_with fail
    refine (mulE (iw bm) (iw bn) (iw am) (iw an) bm bn am an 200 200 (iw_e3 IB.out) (iw_e3 JB.out) (iw_e3 IA.out) (iw_e3 JA.out) IB.out JB.out IA.out JA.out (by decide) _).mono ?_
    rintro e w5 ⟨r5, i5, rfl, hr, hi, n5, hw⟩
    have o3 : (FloatKind.f32.format.order r5 p1 == some .eq) = true := e3_eq (e3_cast hr (by rw [Int.mul_comm bm am, Int.mul_comm bn an])) HP1.out
    have o4 : (FloatKind.f32.format.order i5 p2 == some .eq) = true := e3_eq (e3_cast hi (by rw [Int.mul_comm bm an, Int.mul_comm bn am, Int.add_comm])) HP2.out
    clear hr hi o1 o2
    replace HB : Hid (Below w.heap.size w w5) := Lib.hid (by rw [hw]; exact below_dn HB.out _)
    clear hw
    go_wp2_with fail
    refine (powE am an IA.out JA.out _).mono ?_
    rintro e w6 ⟨r6, rfl, hr, n6, hw⟩
    have o5 : (FloatKind.f32.format.order r6 (floatOfInt .f32 (am * am + an * an)) != some .eq) = false := e3_ne hr (e3_int U3.out)
    clear hr o3 o4
    replace HB : Hid (Below w.heap.size w w6) := Lib.hid (by rw [hw]; exact below_dn HB.out _)
    clear hw
    go_wp2_with fail
    refine (impl_ConjugateOf _ _ _).mono ?_
    rintro e w7 ⟨rfl, n7, hw⟩
    clear o5
    replace HB : Hid (Below w.heap.size w w7) := Lib.hid (by rw [hw]; exact below_dn HB.out _)
    clear hw
    go_wp2_with fail
    refine (mulE (iw am) (iw an) (iw am) (Go.Op.negFloat .f32 (iw an)) am an am (-an) 200 200 (iw_e3 IA.out) (iw_e3 JA.out) (iw_e3 IA.out) (iw_neg JA.out) IA.out JA.out IA.out (upTo.neg JA.out) (by decide) _).mono ?_
    rintro e w8 ⟨r8, i8, rfl, hr, hi, n8, hw⟩
    have o6 : (FloatKind.f32.format.order r8 (floatOfInt .f32 (am * am + an * an)) == some .eq) = true := e3_eq (e3_cast hr (by rw [Int.mul_neg, Int.sub_neg])) (e3_int U3.out)
    have o7 : (FloatKind.f32.format.order i8 0 == some .eq) = true := e3_eq (e3_cast hi (by rw [Int.mul_neg, Int.mul_comm an am]; omega)) e3_zero
    clear hr hi
    replace HB : Hid (Below w.heap.size w w8) := Lib.hid (by rw [hw]; exact below_dn HB.out _)
    clear hw
    go_wp2_with fail
    refine (impl_LongOf _ _ _ (pwC_word IA.out JA.out) _).mono ?_
    rintro e w9 ⟨r9, rfl, hc, hr, n9, hw⟩
    have C9 := Lib.hid hc
    have R9 : Hid (W32 r9) := Lib.hid hr
    clear hc hr o6 o7
    replace HB : Hid (Below w.heap.size w w9) := Lib.hid (by rw [hw]; exact below_dn HB.out _)
    clear hw
    go_wp2_with fail
    refine (spec_RootNumberN _ _).mono ?_
    rintro e w10 ⟨r10, rfl, hc, hr, n10, hw⟩
    have S10 := Lib.hid (same_cls (C9.out.trans hc.symm))
    have R10 : Hid (W32 r10) := Lib.hid hr
    clear hc hr
    replace HB : Hid (Below w.heap.size w w10) := Lib.hid (by rw [hw]; exact below_dn HB.out _)
    clear hw
    go_wp2_with fail
    refine (spec_SameNumber _ _ R9.out R10.out _).mono ?_
    rintro e w11 ⟨rfl, n11, hw⟩
    rw [S10.out]
    replace HB : Hid (Below w.heap.size w w11) := Lib.hid (by rw [hw]; exact below_dn HB.out _)
    clear hw
    clear kam kan kbm kbn qambm qanbn qambn qanbm qamam qanan C9 R9 R10 S10 U3
    obtain ⟨s1, t1, s2, t2, f1, f2, ho1, ho2, hsc⟩ := scaE am an IA.out JA.out
    have O1 := Lib.hid ho1; have O2 := Lib.hid ho2; have SC := Lib.hid hsc
    have ks : Hid (∀ w, (binOp .add 24 (.complex .f32 (iw am) (iw an)) (.complex .f32 (iw am) (iw an))).run Tryz.prog w = .ok (.complex .f32 t1 t2) w) := Lib.hid (fun w => run_complex_sum w .add (.inl rfl) _ _ _ _ _ _ _ _ (by unfold cSumBits; rw [f1, f2]; rfl))
    clear f1 f2 ho1 ho2 hsc
    have z1 := iw_zero IB.out
    have z2 := iw_zero JB.out
    cases hbz : (decide (bm = 0) && decide (bn = 0))
    · have hz : ((FloatKind.f32.format.order (iw bm) 0 == some .eq) && (FloatKind.f32.format.order (iw bn) 0 == some .eq)) = false := by rw [z1, z2, hbz]
      clear z1 z2
      go_wp2_with fail
      refine (quoE p1 p2 am an bm bn IA.out JA.out IB.out JB.out HP1.out HP2.out (sum_zero hbz) _).mono ?_
      rintro e w12 ⟨r12, i12, rfl, hr, hi, n12, hw⟩
      have o8 : (FloatKind.f32.format.order r12 (iw am) == some .eq) = true := e3_eq hr (iw_e3 IA.out)
      have o9 : (FloatKind.f32.format.order i12 (iw an) == some .eq) = true := e3_eq hi (iw_e3 JA.out)
      clear hr hi
      replace HB : Hid (Below w.heap.size w w12) := Lib.hid (by rw [hw]; exact below_dn HB.out _)
      clear hw
      go_wp2_with fail
      refine (SC.out _).mono ?_
      rintro e w13 ⟨rfl, n13, hw⟩
      have ks1 := ks.out
      have ho1 := O1.out
      have ho2 := O2.out
      replace HB : Hid (Below w.heap.size w w13) := Lib.hid (by rw [hw]; exact below_dn HB.out _)
      clear hw
      go_wp2_with fail
      refine (laws_b10At _ _ code (B0.out.later HB.out) 0 (by decide) 9 (by decide) (by decide)).mono ?_
      rintro e w14 ⟨m, rfl, hm, rfl⟩
      have HM9 := Lib.hid hm
      clear hm ks1 ho1 ho2 ks SC O1 O2
      go_wp2_with fail
      refine (spec_B10Any _ _ more (B1.out.later HB.out) HL.out.2 m (by have := HM9.out; omega)).mono ?_
      rintro e w15 ⟨vl, zs, rfl, hxs, hzl, hzw, hb⟩
      have HX := Lib.hid hxs; have HZL := Lib.hid hzl; have HZW := Lib.hid hzw
      obtain ⟨al, ll, cl, rfl⟩ := hxs.shape
      obtain ⟨rfl, _, _⟩ := hxs.at
      clear hxs hzl hzw
      replace HB := Lib.hid (HB.out.trans (hb.mono HB.out.size))
      clear hb
      have HQ := Lib.hid (rc_tx zs HZW.out (by have := HZL.out; omega))
      have HQS := Lib.hid (txC_size zs HZL.out)
      go_wp2_with fail
      refine (impl_ComplexText _ _ zs HX.out HZW.out (HT.out.later HB.out) (by have := HZL.out; omega)).mono ?_
      rintro e w16 ⟨rfl, hb⟩
      replace HX : Hid (XS fC w16 (.slice al zs.length cl) zs) := Lib.hid (HX.out.later hb)
      replace HB := Lib.hid (HB.out.trans (hb.mono HB.out.size))
      clear hb
      go_wp2_with fail
      refine (impl_ReadComplex _ (txC zs) HQS.out (HM.out.later HB.out) (HT.out.later HB.out) (HE.out.later HB.out)).mono ?_
      rintro e w17 ⟨ar, cr, rfl, hown, hb⟩
      rw [HQ.out.1, HQ.out.2, List.length_map]
      rw [HQ.out.2, List.length_map] at hown
      have HXR : Hid (XS fC w17 (.slice ar zs.length cr) (zs.map fun z => (nb z.1, nb z.2))) := Lib.hid hown.XS
      clear hown
      replace HX : Hid (XS fC w17 (.slice al zs.length cl) zs) := Lib.hid (HX.out.later hb)
      replace HB := Lib.hid (HB.out.trans (hb.mono HB.out.size))
      clear hb
      go_wp2_with fail
      refine (spec_B10Number _ _ code (B0.out.later HB.out) HL.out.1).mono ?_
      rintro e w18 ⟨x, rfl, hx, hb⟩
      have HW := Lib.hid hx
      clear hx
      replace HX : Hid (XS fC w18 (.slice al zs.length cl) zs) := Lib.hid (HX.out.later hb)
      replace HXR : Hid (XS fC w18 (.slice ar zs.length cr) (zs.map fun z => (nb z.1, nb z.2))) := Lib.hid (HXR.out.later hb)
      replace HB := Lib.hid (HB.out.trans (hb.mono HB.out.size))
      clear hb
      go_wp2_with fail
      refine (impl_BitsOf x HW.out _).mono ?_
      rintro e w19 ⟨rfl, n19, hw⟩
      replace HB : Hid (Below w.heap.size w w19) := Lib.hid (by rw [hw]; exact below_dn HB.out _)
      replace HX : Hid (XS fC w19 (.slice al zs.length cl) zs) := Lib.hid (by rw [hw]; exact HX.out.later (below_dn (Below.refl _ _) _))
      replace HXR : Hid (XS fC w19 (.slice ar zs.length cr) (zs.map fun z => (nb z.1, nb z.2))) := Lib.hid (by rw [hw]; exact HXR.out.later (below_dn (Below.refl _ _) _))
      clear hw
      go_wp2_with fail
      refine (impl_FromBits_yes _ (bt_range HW.out).1 (bt_range HW.out).2 _).mono ?_
      rintro e w20 ⟨rfl, n20, hw⟩
      rw [show (bt x).toNat = nb x from rfl]
      replace HB : Hid (Below w.heap.size w w20) := Lib.hid (by rw [hw]; exact below_dn HB.out _)
      replace HX : Hid (XS fC w20 (.slice al zs.length cl) zs) := Lib.hid (by rw [hw]; exact HX.out.later (below_dn (Below.refl _ _) _))
      replace HXR : Hid (XS fC w20 (.slice ar zs.length cr) (zs.map fun z => (nb z.1, nb z.2))) := Lib.hid (by rw [hw]; exact HXR.out.later (below_dn (Below.refl _ _) _))
      clear hw
      go_wp2_with fail
      refine (spec_B10Complex _ _ code (B0.out.later HB.out) HL.out.1).mono ?_
      rintro e w21 ⟨p, q, rfl, hp, hq, hb⟩
      have HWP := Lib.hid hp; have HWQ := Lib.hid hq
      clear hp hq
      replace HX : Hid (XS fC w21 (.slice al zs.length cl) zs) := Lib.hid (HX.out.later hb)
      replace HXR : Hid (XS fC w21 (.slice ar zs.length cr) (zs.map fun z => (nb z.1, nb z.2))) := Lib.hid (HXR.out.later hb)
      replace HB := Lib.hid (HB.out.trans (hb.mono HB.out.size))
      clear hb
      have K1 := Lib.hid (fun u u' => same_cls (cls_back p HWP.out u u'))
      have K2 := Lib.hid (fun u u' => same_cls (cls_back q HWQ.out u u'))
      go_wp2_with fail
      refine (laws_b10Same _ _ _ zs (HXR.out.later (below_dn (Below.refl _ _) _)) (HX.out.later (below_dn (Below.refl _ _) _)) HZW.out HZL.out).mono ?_
      rintro e w22 ⟨rfl, n22, hw⟩
      replace hw : ∃ k, w22 = w21.drewN k := ⟨_, hw.trans (World.drewN_drewN _ _ _)⟩
      obtain ⟨n22, hw⟩ := hw
      replace HB : Hid (Below w.heap.size w w22) := Lib.hid (by rw [hw]; exact below_dn HB.out _)
      clear hw
      clear HX HXR HZW HZL HQ HQS
      go_wp2_with fail
      refine (spec_SameNumber _ _ (nb_lt HW.out) HW.out _).mono ?_
      rintro e w23 ⟨rfl, n23, hw⟩
      rw [same_nb]
      replace HB : Hid (Below w.heap.size w w23) := Lib.hid (by rw [hw]; exact below_dn HB.out _)
      clear hw
      go_wp2_with fail
      refine (impl_NarrowComplex _ _ _).mono ?_
      rintro e w24 ⟨u1, u2, rfl, n24, hw⟩
      replace HB : Hid (Below w.heap.size w w24) := Lib.hid (by rw [hw]; exact below_dn HB.out _)
      clear hw
      go_wp2_with fail
      refine (impl_SameComplex _ _ _ _ (cv_narrow_lt _ _) (cv_narrow_lt _ _) HWP.out HWQ.out _).mono ?_
      rintro e w25 ⟨rfl, n25, hw⟩
      rw [K1.out, K2.out, Bool.and_self]
      replace HB : Hid (Below w.heap.size w w25) := Lib.hid (by rw [hw]; exact below_dn HB.out _)
      clear hw
      go_wp2_with fail
      refine (impl_ConjugateOf _ _ _).mono ?_
      rintro e w26 ⟨rfl, n26, hw⟩
      replace HB : Hid (Below w.heap.size w w26) := Lib.hid (by rw [hw]; exact below_dn HB.out _)
      clear hw
      go_wp2_with fail
      refine (impl_ConjugateOf _ _ _).mono ?_
      rintro e w27 ⟨rfl, n27, hw⟩
      rw [neg_neg]
      replace HB : Hid (Below w.heap.size w w27) := Lib.hid (by rw [hw]; exact below_dn HB.out _)
      clear hw
      go_wp2_with fail
      refine (impl_SameComplex _ _ _ _ HWP.out HWQ.out HWP.out HWQ.out _).mono ?_
      rintro e w28 ⟨rfl, n28, hw⟩
      rw [same_self, same_self, Bool.and_self]
      replace HB : Hid (Below w.heap.size w w28) := Lib.hid (by rw [hw]; exact below_dn HB.out _)
      clear hw
      go_wp2_with fail
      refine (impl_IsFiniteComplex _ _ _).mono ?_
      rintro e w29 ⟨rfl, hb⟩
      replace HB := Lib.hid (HB.out.trans (hb.mono HB.out.size))
      clear hb
      go_wp2_with fail
      refine (spec_IsFinite _ _).mono ?_
      rintro e w30 ⟨rfl, n30, hw⟩
      replace HB : Hid (Below w.heap.size w w30) := Lib.hid (by rw [hw]; exact below_dn HB.out _)
      clear hw
      generalize finb FloatKind.f32.format p = fp at *
      cases fp
      · go_wp2
        go_ret
        exact .mk' rfl HB.out
      · go_wp2_with fail
        refine (spec_IsFinite _ _).mono ?_
        rintro e w31 ⟨rfl, n31, hw⟩
        replace HB : Hid (Below w.heap.size w w31) := Lib.hid (by rw [hw]; exact below_dn HB.out _)
        clear hw
        generalize finb FloatKind.f32.format q = fq at *
        cases fq
        · go_wp2
          go_ret
          exact .mk' rfl HB.out
        · go_wp2
          go_ret
          exact .mk' rfl HB.out
    · have hz : ((FloatKind.f32.format.order (iw bm) 0 == some .eq) && (FloatKind.f32.format.order (iw bn) 0 == some .eq)) = true := by rw [z1, z2, hbz]
      clear z1 z2
      go_wp2_with fail
      refine (SC.out _).mono ?_
      rintro e w13 ⟨rfl, n13, hw⟩
      have ks1 := ks.out
      have ho1 := O1.out
      have ho2 := O2.out
      replace HB : Hid (Below w.heap.size w w13) := Lib.hid (by rw [hw]; exact below_dn HB.out _)
      clear hw
      go_wp2_with fail
      refine (laws_b10At _ _ code (B0.out.later HB.out) 0 (by decide) 9 (by decide) (by decide)).mono ?_
      rintro e w14 ⟨m, rfl, hm, rfl⟩
      have HM9 := Lib.hid hm
      clear hm ks1 ho1 ho2 ks SC O1 O2
      go_wp2_with fail
      refine (spec_B10Any _ _ more (B1.out.later HB.out) HL.out.2 m (by have := HM9.out; omega)).mono ?_
      rintro e w15 ⟨vl, zs, rfl, hxs, hzl, hzw, hb⟩
      have HX := Lib.hid hxs; have HZL := Lib.hid hzl; have HZW := Lib.hid hzw
      obtain ⟨al, ll, cl, rfl⟩ := hxs.shape
      obtain ⟨rfl, _, _⟩ := hxs.at
      clear hxs hzl hzw
      replace HB := Lib.hid (HB.out.trans (hb.mono HB.out.size))
      clear hb
      have HQ := Lib.hid (rc_tx zs HZW.out (by have := HZL.out; omega))
      have HQS := Lib.hid (txC_size zs HZL.out)
      go_wp2_with fail
      refine (impl_ComplexText _ _ zs HX.out HZW.out (HT.out.later HB.out) (by have := HZL.out; omega)).mono ?_
      rintro e w16 ⟨rfl, hb⟩
      replace HX : Hid (XS fC w16 (.slice al zs.length cl) zs) := Lib.hid (HX.out.later hb)
      replace HB := Lib.hid (HB.out.trans (hb.mono HB.out.size))
      clear hb
      go_wp2_with fail
      refine (impl_ReadComplex _ (txC zs) HQS.out (HM.out.later HB.out) (HT.out.later HB.out) (HE.out.later HB.out)).mono ?_
      rintro e w17 ⟨ar, cr, rfl, hown, hb⟩
      rw [HQ.out.1, HQ.out.2, List.length_map]
      rw [HQ.out.2, List.length_map] at hown
      have HXR : Hid (XS fC w17 (.slice ar zs.length cr) (zs.map fun z => (nb z.1, nb z.2))) := Lib.hid hown.XS
      clear hown
      replace HX : Hid (XS fC w17 (.slice al zs.length cl) zs) := Lib.hid (HX.out.later hb)
      replace HB := Lib.hid (HB.out.trans (hb.mono HB.out.size))
      clear hb
      go_wp2_with fail
      refine (spec_B10Number _ _ code (B0.out.later HB.out) HL.out.1).mono ?_
      rintro e w18 ⟨x, rfl, hx, hb⟩
      have HW := Lib.hid hx
      clear hx
      replace HX : Hid (XS fC w18 (.slice al zs.length cl) zs) := Lib.hid (HX.out.later hb)
      replace HXR : Hid (XS fC w18 (.slice ar zs.length cr) (zs.map fun z => (nb z.1, nb z.2))) := Lib.hid (HXR.out.later hb)
      replace HB := Lib.hid (HB.out.trans (hb.mono HB.out.size))
      clear hb
      go_wp2_with fail
      refine (impl_BitsOf x HW.out _).mono ?_
      rintro e w19 ⟨rfl, n19, hw⟩
      replace HB : Hid (Below w.heap.size w w19) := Lib.hid (by rw [hw]; exact below_dn HB.out _)
      replace HX : Hid (XS fC w19 (.slice al zs.length cl) zs) := Lib.hid (by rw [hw]; exact HX.out.later (below_dn (Below.refl _ _) _))
      replace HXR : Hid (XS fC w19 (.slice ar zs.length cr) (zs.map fun z => (nb z.1, nb z.2))) := Lib.hid (by rw [hw]; exact HXR.out.later (below_dn (Below.refl _ _) _))
      clear hw
      go_wp2_with fail
      refine (impl_FromBits_yes _ (bt_range HW.out).1 (bt_range HW.out).2 _).mono ?_
      rintro e w20 ⟨rfl, n20, hw⟩
      rw [show (bt x).toNat = nb x from rfl]
      replace HB : Hid (Below w.heap.size w w20) := Lib.hid (by rw [hw]; exact below_dn HB.out _)
      replace HX : Hid (XS fC w20 (.slice al zs.length cl) zs) := Lib.hid (by rw [hw]; exact HX.out.later (below_dn (Below.refl _ _) _))
      replace HXR : Hid (XS fC w20 (.slice ar zs.length cr) (zs.map fun z => (nb z.1, nb z.2))) := Lib.hid (by rw [hw]; exact HXR.out.later (below_dn (Below.refl _ _) _))
      clear hw
      go_wp2_with fail
      refine (spec_B10Complex _ _ code (B0.out.later HB.out) HL.out.1).mono ?_
      rintro e w21 ⟨p, q, rfl, hp, hq, hb⟩
      have HWP := Lib.hid hp; have HWQ := Lib.hid hq
      clear hp hq
      replace HX : Hid (XS fC w21 (.slice al zs.length cl) zs) := Lib.hid (HX.out.later hb)
      replace HXR : Hid (XS fC w21 (.slice ar zs.length cr) (zs.map fun z => (nb z.1, nb z.2))) := Lib.hid (HXR.out.later hb)
      replace HB := Lib.hid (HB.out.trans (hb.mono HB.out.size))
      clear hb
      have K1 := Lib.hid (fun u u' => same_cls (cls_back p HWP.out u u'))
      have K2 := Lib.hid (fun u u' => same_cls (cls_back q HWQ.out u u'))
      go_wp2_with fail
      refine (laws_b10Same _ _ _ zs (HXR.out.later (below_dn (Below.refl _ _) _)) (HX.out.later (below_dn (Below.refl _ _) _)) HZW.out HZL.out).mono ?_
      rintro e w22 ⟨rfl, n22, hw⟩
      replace hw : ∃ k, w22 = w21.drewN k := ⟨_, hw.trans (World.drewN_drewN _ _ _)⟩
      obtain ⟨n22, hw⟩ := hw
      replace HB : Hid (Below w.heap.size w w22) := Lib.hid (by rw [hw]; exact below_dn HB.out _)
      clear hw
      clear HX HXR HZW HZL HQ HQS
      go_wp2_with fail
      refine (spec_SameNumber _ _ (nb_lt HW.out) HW.out _).mono ?_
      rintro e w23 ⟨rfl, n23, hw⟩
      rw [same_nb]
      replace HB : Hid (Below w.heap.size w w23) := Lib.hid (by rw [hw]; exact below_dn HB.out _)
      clear hw
      go_wp2_with fail
      refine (impl_NarrowComplex _ _ _).mono ?_
      rintro e w24 ⟨u1, u2, rfl, n24, hw⟩
      replace HB : Hid (Below w.heap.size w w24) := Lib.hid (by rw [hw]; exact below_dn HB.out _)
      clear hw
      go_wp2_with fail
      refine (impl_SameComplex _ _ _ _ (cv_narrow_lt _ _) (cv_narrow_lt _ _) HWP.out HWQ.out _).mono ?_
      rintro e w25 ⟨rfl, n25, hw⟩
      rw [K1.out, K2.out, Bool.and_self]
      replace HB : Hid (Below w.heap.size w w25) := Lib.hid (by rw [hw]; exact below_dn HB.out _)
      clear hw
      go_wp2_with fail
      refine (impl_ConjugateOf _ _ _).mono ?_
      rintro e w26 ⟨rfl, n26, hw⟩
      replace HB : Hid (Below w.heap.size w w26) := Lib.hid (by rw [hw]; exact below_dn HB.out _)
      clear hw
      go_wp2_with fail
      refine (impl_ConjugateOf _ _ _).mono ?_
      rintro e w27 ⟨rfl, n27, hw⟩
      rw [neg_neg]
      replace HB : Hid (Below w.heap.size w w27) := Lib.hid (by rw [hw]; exact below_dn HB.out _)
      clear hw
      go_wp2_with fail
      refine (impl_SameComplex _ _ _ _ HWP.out HWQ.out HWP.out HWQ.out _).mono ?_
      rintro e w28 ⟨rfl, n28, hw⟩
      rw [same_self, same_self, Bool.and_self]
      replace HB : Hid (Below w.heap.size w w28) := Lib.hid (by rw [hw]; exact below_dn HB.out _)
      clear hw
      go_wp2_with fail
      refine (impl_IsFiniteComplex _ _ _).mono ?_
      rintro e w29 ⟨rfl, hb⟩
      replace HB := Lib.hid (HB.out.trans (hb.mono HB.out.size))
      clear hb
      go_wp2_with fail
      refine (spec_IsFinite _ _).mono ?_
      rintro e w30 ⟨rfl, n30, hw⟩
      replace HB : Hid (Below w.heap.size w w30) := Lib.hid (by rw [hw]; exact below_dn HB.out _)
      clear hw
      generalize finb FloatKind.f32.format p = fp at *
      cases fp
      · go_wp2
        go_ret
        exact .mk' rfl HB.out
      · go_wp2_with fail
        refine (spec_IsFinite _ _).mono ?_
        rintro e w31 ⟨rfl, n31, hw⟩
        replace HB : Hid (Below w.heap.size w w31) := Lib.hid (by rw [hw]; exact below_dn HB.out _)
        clear hw
        generalize finb FloatKind.f32.format q = fq at *
        cases fq
        · go_wp2
          go_ret
          exact .mk' rfl HB.out
        · go_wp2
          go_ret
          exact .mk' rfl HB.out
  · clear hlg
    go_enter Tryz.func3, Tryz.ntmps3
    go_wp2_with fail
    refine (laws_b10Long _ _ _ _ _ _ _).mono ?_
    rintro e w1 ⟨rfl, n1, rfl⟩
    rw [HLG.out]
    go_wp2
    go_ret
    exact .mk' rfl (below_dn (Below.refl _ _) _)

end Go.Proofs.YtcaceplnlfmejaaGreatDoor
