/- ReadComplex: the walk of the reference; the law. -/
import Derived.Test.YtcaceplnlfmejaaDoorWt43
namespace Go.Proofs.YtcaceplnlfmejaaDoor
open Fl Go.RowKit

set_option maxRecDepth 20000 in
theorem spec_l01CRead (w : World) (s : ByteArray) (hs : s.size ≤ 1048576) : Calls Tryd.prog 55 #[.string s] w (RetC4 w s) := by
  obtain ⟨iF, hi, hz0, hz1, hz2⟩ := info_parts infoC
  by_cases h : s = nonB
  · have hne := non_eq h
    have HW : Hid (wordsB s = []) := Lib.hid (by rw [h, wordsB_none])
    have HR : Hid (rcOk s = true) := Lib.hid (by rw [h, rcOk_none])
    clear h
    go_enter Tryd.func55, Tryd.ntmps55
    go_wp2
    go_ret2
    refine RetC4.yes HR.out (by rw [HW.out]; rfl) ?_ ((Below.refl _ _).alloc (Nat.le_refl _) _)
    rw [HW.out]
    exact World.ownsRow_made _ _ 0 (Nat.le_refl _) (by unfold maxLen; omega) rfl
  · have hne := non_ne h
    have HC := Lib.hid (fun w => spec_l01Cut w s hs)
    have HW : Hid (wordsB s = partsB s) := Lib.hid (wordsB_else h)
    have HLN := Lib.hid (parts_len s)
    rw [← HW.out] at HC HLN
    have HV := Lib.hid (fun x (w' : World) h8 => spec_l01Digits x w' h8)
    have HBAD := Lib.hid (fun k x (hx : (wordsB s)[k]? = some x) => rc_bad hx)
    have HLONG := Lib.hid (rc_long (s := s)); have HGOOD := Lib.hid (rc_good (s := s))
    have hl : (((wordsB s).length : Nat) : Int) ≤ 1048577 := by have := HLN.out.2; omega
    have HWS := Lib.hid (fun k x (hx : (wordsB s)[k]? = some x) => words_size hx)
    have HYES := Lib.hid (fun (w' : World) a n cap => RetC4.yes (w := w) (w' := w') (s := s) (a := a) (n := n) (cap := cap))
    have HNO := Lib.hid (fun (w' : World) => RetC4.no (w := w) (w' := w') (s := s))
    clear h HLN HW
    generalize wordsB s = xs at *
    go_enter Tryd.func55, Tryd.ntmps55
    go_wp2_with fail
    refine (HC.out _).mono ?_
    rintro e w1 ⟨v, rfl, ho, hb⟩
    obtain ⟨a, cap, rfl⟩ := ho.shape
    have HP := Lib.hid ho
    have HB0 := Lib.hid (((Below.refl w.heap.size w).alloc (Nat.le_refl _) (.cells #[] 66)).trans (hb.mono (by simp)))
    have HNE : Hid ((Value.slice a xs.length cap).ownBlock ≠ some w.heap.size) := Lib.hid (by
      intro q
      have h1 := (own_lt ho q).1
      have h2 : (w.alloc (.cells #[] 66)).heap.size = w.heap.size + 1 := by simp
      omega)
    have HO0 : Hid (OwnX fC 66 w1 w.heap.size (.slice (some ⟨w.heap.size, 0, none⟩) 0 0) ([] : List (Nat × Nat))) := Lib.hid (OwnX.later (w := w.alloc (.cells #[] 66)) (World.ownsRow_made _ _ 0 (Nat.le_refl _) (by unfold maxLen; omega) rfl) hb)
    clear ho hb HC
    by_cases h65 : 256 < xs.length
    · go_wp2
      go_ret2
      exact HNO.out _ (HLONG.out h65) HB0.out
    go_wp2_with fail
    go_loopw [4, 6] (fun o i wr => ∃ k g c : Nat, k ≤ xs.length ∧ o = .slice (some ⟨g, 0, none⟩) k c ∧ i = .int .i64 k ∧ OwnX fC 66 wr w.heap.size o ((xs.take k).filterMap rc) ∧ Hid (((xs.take k).filterMap rc).length = k) ∧ Hid (∀ (i : Nat) x, xs[i]? = some x → i < k → (rc x).isSome = true) ∧ Hid ((Value.slice a xs.length cap).ownBlock ≠ some g) ∧ OwnX fS 9 wr (w.alloc (.cells #[] 66)).heap.size (.slice a xs.length cap) xs ∧ Below w.heap.size w wr) (fun _ i _ => xs.length - (RowKit.intOf i).toNat)
    case atStart => exact ⟨0, _, _, Nat.zero_le _, rfl, rfl, HO0.out, Lib.hid rfl, Lib.hid (fun _ _ _ h => by omega), HNE, HP.out, HB0.out⟩
    clear HO0 HNE HP HB0
    case round =>
      obtain ⟨k, g, c, hk, rfl, rfl, hown, HKL, HA, HNE, hp, hbel⟩ := hrel
      have HB := Lib.hid hbel; have HO := Lib.hid hown; have HP := Lib.hid hp
      have hsz := hbel.size
      clear hbel hown
      by_cases hlt : k < xs.length
      · obtain ⟨x, hx⟩ := at_of_lt hlt
        obtain ⟨b, off, rfl, hb, hc1⟩ := hp.XS.at.2.2.out k x hx
        have HX := Lib.hid hx
        have hxs : (x.size : Int) ≤ 1048576 := by have := HWS.out k x hx; omega
        clear hx hp
        by_cases h16 : x.size = 16
        · have h16n : ((x.size : Int) != 16) = false := by simp; omega
          have h16i : (x.size : Int) = 16 := by omega
          obtain ⟨x1, hx1⟩ : ∃ x1, x.extract 0 8 = x1 := ⟨_, rfl⟩
          obtain ⟨x2, hx2⟩ : ∃ x2, x.extract 8 16 = x2 := ⟨_, rfl⟩
          have HR1 := Lib.hid (HV.out x1 wr (Lib.hid (by rw [← hx1, ByteArray.size_extract]; omega)))
          have HR2 := Lib.hid (fun w' => HV.out x2 w' (Lib.hid (by rw [← hx2, ByteArray.size_extract]; omega)))
          have HRC : Hid (rc x = match rh x1, rh x2 with | some a, some b => some (a, b) | _, _ => none) := Lib.hid (by rw [rc, if_pos h16, hx1, hx2]; rfl)
          have hszN : x.size = 16 := h16
          clear hxs h16
          go_wp2_with fail
          refine HR1.out.mono ?_
          rintro e w2 ⟨n1, ok1, rfl, hwn1, hor1, hb2⟩
          have hc2 : w2.cell? ⟨b, off + k, none⟩ = some (.string x) := (hb2.cell (p := ⟨b, off + k, none⟩) hb).trans hc1
          have HB2 := Lib.hid (HB.out.trans (hb2.mono hsz))
          have HO2 := Lib.hid (HO.out.later hb2)
          have HP2 := Lib.hid (HP.out.later hb2)
          have hsz2 := HB2.out.size
          have HOR1 := Lib.hid hor1
          clear hb2 hc1 HB HO HP hwn1 hor1 HR1
          go_wp2_with fail
          refine (HR2.out w2).mono ?_
          rintro e w3 ⟨n2, ok2, rfl, hwn2, hor2, hb3⟩
          have HB3 := Lib.hid (HB2.out.trans (hb3.mono hsz2))
          have HO3 := Lib.hid (HO2.out.later hb3)
          have HP3 := Lib.hid (HP2.out.later hb3)
          have hsz3 := HB3.out.size
          have HOR2 := Lib.hid hor2
          clear hb3 hc2 HB2 HO2 HP2 hwn2 hor2 HR2
          rcases HOR1.out with ⟨rfl, hr1⟩ | ⟨rfl, hr1⟩
          · rcases HOR2.out with ⟨rfl, hr2⟩ | ⟨rfl, hr2⟩
            · have hrd : rc x = some (n1, n2) := by rw [HRC.out, hr1, hr2]
              have HN : Hid (∀ (i : Nat) x, xs[i]? = some x → i < k + 1 → (rc x).isSome = true) := Lib.hid fun i y hy hi => by
                rcases Nat.lt_or_ge i k with q | q
                · exact HA.out i y hy q
                · obtain rfl : i = k := by omega
                  obtain rfl := Option.some.inj (hy.symm.trans HX.out)
                  rw [hrd]; rfl
              have HTK := Lib.hid (fc_take HX.out hrd)
              clear hrd hr1 hr2
              have hkl : (((xs.take k).filterMap rc).length : Int) ≤ 256 := by have := HKL.out; omega
              have hkl2 := HKL.out
              go_wp2_with (at_builtin; refine wpList_append_own_at _ rfl (.tmp 56) (.tmp 60) 44 rfl w.heap.size 66 iF (.complex .f32 0 0) 1 8 Tryd.underlying44 hi hz0 hz1 hz2 rfl (by decide) (.slice (some ⟨g, 0, none⟩) k c) ((xs.take k).filterMap rc).length (((xs.take k).filterMap rc).map fC) rfl (World.ownsRow.alloc HO3.out _) ⟨w3.heap.size, 0, none⟩ 1 1 [.complex .f32 n1 n2] rfl rfl (news4 w3 _ _) (fun u hu => by simp at hu; subst hu; rfl) (by unfold maxLen; omega) (by omega) (by simp; omega) ?_)
              intro v4 w4 ho hg hnil hat
              obtain ⟨g1, c1, rfl, hown⟩ := own_push2 (x := (n1, n2)) (f := fC) (by rw [hkl2]) ho
              have hlen : ((xs.take k).filterMap rc ++ [(n1, n2)]).length = k + 1 := by simp [hkl2]
              rw [← HTK.out] at hown hlen
              have HO4 := Lib.hid hown; have HL4 := Lib.hid hlen
              have HB4 := Lib.hid (push_below HB3.out HO3.out hg)
              have HP4 := Lib.hid (push_keep HP3.out HNE.out hg)
              have HNE4 := Lib.hid (push_ne HP3.out HNE.out hat)
              clear ho hg hnil hat hown hlen hkl hkl2 HO3 HB3 HP3
              go_wp2
              go_roundw
              case rel => exact ⟨k + 1, g1, c1, by omega, rfl, by go_num, HO4.out, HL4, HN, HNE4, HP4.out, HB4.out⟩
              case measure => simp [RowKit.intOf]; omega
            · have HZ := Lib.hid (HBAD.out k x HX.out (by rw [HRC.out, hr1, hr2]))
              clear hr1 hr2
              go_wp2
              go_ret2
              exact HNO.out _ HZ.out HB3.out
          · have HZ := Lib.hid (HBAD.out k x HX.out (by rw [HRC.out, hr1]))
            clear hr1
            go_wp2
            go_ret2
            exact HNO.out _ HZ.out HB3.out
        · have HZ := Lib.hid (HBAD.out k x HX.out (by rw [rc, if_neg h16]))
          have h16n : ((x.size : Int) != 16) = true := by simp; omega
          clear h16 hxs
          go_wp2
          go_ret2
          exact HNO.out _ HZ.out HB.out
      · obtain rfl : k = xs.length := by omega
        have HZ := Lib.hid (HGOOD.out (fun i x hx => HA.out i x hx (List.getElem?_eq_some_iff.1 hx).1) (by omega))
        have hkl := HKL.out
        have ho := HO.out
        rw [List.take_length] at hkl ho
        have HO' := Lib.hid ho; have HKL' := Lib.hid hkl
        clear hkl ho hp
        go_wp2
        go_ret2
        exact HYES.out _ _ _ _ HZ.out HKL'.out HO'.out HB.out

theorem spec_ReadComplex (w : World) (s : ByteArray) (hs : s.size ≤ 1048576) : Calls Tryd.prog 33 #[.string s] w (RetC4 w s) := by
  have H := Lib.hid (spec_l01CRead w s hs)
  go_enter Tryd.func33, Tryd.ntmps33
  go_wp2_with fail
  refine H.out.mono ?_
  rintro e w1 ⟨a, cap, rfl, ho, hb⟩
  have HO := Lib.hid ho; have HB := Lib.hid hb
  clear ho hb H
  go_wp2
  go_ret2
  exact ⟨_, _, rfl, HO.out, HB.out⟩

theorem rcL_len (s : ByteArray) : (rcL s).length ≤ 256 := by
  cases h : rcOk s with
  | false => rw [rcL_no h]; simp
  | true =>
    rw [rcL_yes h]
    have h2 : (wordsB s).length ≤ 256 := by simp [rcOk] at h; exact h.2
    exact Nat.le_trans (List.length_filterMap_le _ _) h2

set_option maxRecDepth 20000 in
set_option maxHeartbeats 1600000 in
theorem law_ReadComplex (w : World) (s : ByteArray) (hs : s.size ≤ maxLen) (ht : TzC w) (he : Errs w) (hm : MaxL w) : Calls Tryd.prog 10 #[.string s] w (fun e w' => e = .returned (.bool true) ∧ Below w.heap.size w w') := by
  have hmx := hs
  unfold maxLen at hmx
  by_cases hlong : 1048576 < s.size
  · go_enter Tryd.func10, Tryd.ntmps10
    go_wp2
    go_ret
    exact ⟨rfl, Below.refl _ _⟩
  have hl : s.size ≤ 1048576 := by omega
  have HT := Lib.hid ht; have HE := Lib.hid he; have HM := Lib.hid hm
  have HS := Lib.hid (fun (w : World) => spec_ReadComplex w s hl)
  have HI := Lib.hid (fun (w : World) hm ht he => impl_ReadComplex w s hl hm ht he)
  have HN := rcL_len s
  unfold RetC4 at HS HI
  generalize rcL s = zs at *
  obtain ⟨ok, hok⟩ : ∃ ok, rcOk s = ok := ⟨_, rfl⟩
  rw [hok] at HS HI
  have hn1 : (zs.length : Int) ≤ 256 := by omega
  have hn2 : zs.length ≤ 1048576 := by omega
  have HN2 := Lib.hid hn2
  have hbb : (ok != ok) = false := by cases ok <;> rfl
  clear hok ht he hm hn2
  have HB : Hid (Below w.heap.size w w) := Lib.hid (Below.refl _ _)
  go_enter Tryd.func10, Tryd.ntmps10
  go_wp2_with fail
  refine (HS.out _).mono ?_
  rintro e w1 ⟨aW, cW, rfl, ho, hb⟩
  replace HB := Lib.hid (HB.out.trans (hb.mono HB.out.size))
  have OW := Lib.hid ho
  have hs1 : w.heap.size ≤ w1.heap.size := hb.size
  clear ho hb
  go_wp2_with fail
  refine (HI.out _ (HM.out.later HB.out) (HT.out.later HB.out) (HE.out.later HB.out)).mono ?_
  rintro e w2 ⟨aG, cG, rfl, ho, hb⟩
  have NWG := Lib.hid (ne_of (v := .slice aW zs.length cW) (v' := .slice aG zs.length cG) (fun g hg => (own_lt OW.out hg).2) (fun g hg => (own_lt ho hg).1) (Nat.le_refl _))
  have BG : Hid (∀ g, (Value.slice aG zs.length cG).ownBlock = some g → w.heap.size ≤ g) := Lib.hid (fun g hg => Nat.le_trans hs1 (own_lt ho hg).1)
  replace HB := Lib.hid (HB.out.trans (hb.mono HB.out.size))
  replace OW := Lib.hid (OW.out.later hb)
  have OG := Lib.hid ho
  clear ho hb hs1
  go_wp2_with fail
  refine (eqComplex64S_true _ _ _ zs OG.out.XS OW.out.XS).mono ?_
  rintro e w3 ⟨rfl, q0, hw⟩
  have hb := drew_below hw; clear hw
  replace HB := Lib.hid (HB.out.trans (hb.mono HB.out.size))
  replace OW := Lib.hid (OW.out.later hb)
  replace OG := Lib.hid (OG.out.later hb)
  clear hb
  go_wp2_with fail
  have HG2 : Hid (w3.ownsRow w1.heap.size 66 1 (.slice aG zs.length cG) zs.length (zs.map fC)) := OG
  refine (markComplex64S_own _ _ _ _ _ HG2.out HN).mono ?_
  rintro e w4 ⟨rfl, ho, hg⟩
  replace HB := Lib.hid (below_gb HB.out hg HB.out.size (fun k hk => BG.out k hk))
  have OW4 : Hid (OwnX fC 66 w4 w.heap.size (.slice aW zs.length cW) zs) := Lib.hid (World.ownsRow.kept OW.out hg NWG.out)
  have OM := Lib.hid ho
  have HMK : Hid (∀ i, i < zs.length → (mkL (Mc) (zs.map fC) zs.length)[i]? = some (Mc i)) := Lib.hid (fun i hi => by have := mkL_all (Mc) (zs.map fC) (i := i) (by simpa using hi); simpa using this)
  clear ho hg OG OW HG2 NWG BG
  go_wp2_with fail
  refine (heldComplex64S_own _ _ _ _ _ OM.out HMK.out HN).mono ?_
  rintro e w5 ⟨rfl, q0, hw⟩
  have hb := drew_below hw; clear hw
  replace HB := Lib.hid (HB.out.trans (hb.mono HB.out.size))
  have OW5 := Lib.hid (OW4.out.later hb)
  have OM5 := Lib.hid (row_later OM.out hb)
  clear hb OW4 OM
  go_wp2_with fail
  refine (HI.out _ (HM.out.later HB.out) (HT.out.later HB.out) (HE.out.later HB.out)).mono ?_
  rintro e w6 ⟨aH, cH, rfl, ho, hb⟩
  replace HB := Lib.hid (HB.out.trans (hb.mono HB.out.size))
  have OW6 := Lib.hid (OW5.out.later hb)
  have OM6 := Lib.hid (row_later OM5.out hb)
  have OH := Lib.hid ho
  clear hb ho OW5 OM5
  go_wp2_with fail
  refine (eqComplex64S_true _ _ _ zs OH.out.XS OW6.out.XS).mono ?_
  rintro e w7 ⟨rfl, q0, hw⟩
  have hb := drew_below hw; clear hw
  replace HB := Lib.hid (HB.out.trans (hb.mono HB.out.size))
  have OM7 := Lib.hid (row_later OM6.out hb)
  clear hb OW6 OH OM6
  go_wp2_with fail
  refine (heldComplex64S_own _ _ _ _ _ OM7.out HMK.out HN).mono ?_
  rintro e w8 ⟨rfl, q0, hw⟩
  have hb := drew_below hw; clear hw
  replace HB := Lib.hid (HB.out.trans (hb.mono HB.out.size))
  clear hb
  go_wp2
  go_ret
  exact ⟨rfl, HB.out⟩

end Go.Proofs.YtcaceplnlfmejaaDoor
