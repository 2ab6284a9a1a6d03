/- ReadNumbers: the walk of the reference. -/
import Derived.Test.YtcaceplnlfmejaaDoorWt36
namespace Go.Proofs.YtcaceplnlfmejaaDoor
open Fl Go.RowKit

theorem hacc_step {x : ByteArray} {j n d : Nat} {b : UInt8} (h : hacc (x.data.toList.take j) 0 = some n) (hb : x.data.toList[j]? = some b) (hd : hval b = some d) : hacc (x.data.toList.take (j + 1)) 0 = some (16 * n + d) := by
  rw [List.take_add_one, hb, Option.toList_some, hacc_snoc, h, Option.bind_some, hd]; rfl
theorem rh_byte {x : ByteArray} {j : Nat} {b : UInt8} (hb : x.data.toList[j]? = some b) (hv : hval b = none) : rh x = none := by
  cases h : rh x with
  | none => rfl
  | some m =>
    obtain ⟨h1, _, h3⟩ := rh_some h
    exact absurd h3 (Gx_bad hb hv m h1)
theorem rh_size {x : ByteArray} (h : x.size ≠ 8) : rh x = none := by rw [rh, if_neg h]
theorem rh_full {x : ByteArray} {n : Nat} (h8 : x.size = 8) (h : hacc x.data.toList 0 = some n) : rh x = if nb n = n then some n else none := by rw [rh, if_pos h8, h]

theorem l01From4 (n : Nat) (hn : W32 n) (w : World) : Calls Tryd.prog 75 #[.int .i64 n] w (Ret (.float .f32 n) w) := by
  have k := f32from
  have h := hn.le
  go_enter Tryd.func75, Tryd.ntmps75
  go_wp2
  go_ret
  exact .mk' 0 rfl rfl

set_option maxRecDepth 20000 in
theorem spec_l01NRead (w : World) (s : ByteArray) (hs : s.size ≤ 1048576) : Calls Tryd.prog 53 #[.string s] w (RetF w s) := by
  obtain ⟨iF, hi, hz0, hz1, hz2⟩ := info_parts infoF
  by_cases h : s = nonB
  · have hne := non_eq h
    have HW : Hid (wordsB s = []) := Lib.hid (by rw [h, wordsB_none])
    have HR : Hid (rnOk s = true) := Lib.hid (by rw [h, rnOk_none])
    clear h
    go_enter Tryd.func53, Tryd.ntmps53
    go_wp2
    go_ret2
    refine RetF.yes HR.out (by rw [HW.out]; rfl) ?_ ((Below.refl _ _).alloc (Nat.le_refl _) _)
    rw [HW.out]
    exact World.ownsRow_made _ _ 0 (Nat.le_refl _) (by unfold maxLen; omega) rfl
  · have hne := non_ne h
    have HC := Lib.hid (fun w => spec_l01Cut w s hs)
    have HW : Hid (wordsB s = partsB s) := Lib.hid (wordsB_else h)
    have HLN := Lib.hid (parts_len s)
    rw [← HW.out] at HC HLN
    have HFR := Lib.hid (fun (n : Nat) hn w => l01From4 n hn w)
    have HBT := Lib.hid (fun (n : Nat) hn w => spec_l01Bits n hn w)
    have HBAD := Lib.hid (fun k x (hx : (wordsB s)[k]? = some x) => rn_bad hx)
    have HLONG := Lib.hid (rn_long (s := s)); have HGOOD := Lib.hid (rn_good (s := s))
    have hl : (((wordsB s).length : Nat) : Int) ≤ 1048577 := by have := HLN.out.2; omega
    have HWS := Lib.hid (fun k x (hx : (wordsB s)[k]? = some x) => words_size hx)
    have HYES := Lib.hid (fun (w' : World) a n cap => RetF.yes (w := w) (w' := w') (s := s) (a := a) (n := n) (cap := cap))
    have HNO := Lib.hid (fun (w' : World) => RetF.no (w := w) (w' := w') (s := s))
    clear h HLN HW
    generalize wordsB s = xs at *
    go_enter Tryd.func53, Tryd.ntmps53
    go_wp2_with fail
    refine (HC.out _).mono ?_
    rintro e w1 ⟨v, rfl, ho, hb⟩
    obtain ⟨a, cap, rfl⟩ := ho.shape
    have HP := Lib.hid ho
    have HB0 := Lib.hid (((Below.refl w.heap.size w).alloc (Nat.le_refl _) (.cells #[] 55)).trans (hb.mono (by simp)))
    have HNE : Hid ((Value.slice a xs.length cap).ownBlock ≠ some w.heap.size) := Lib.hid (by
      intro q
      have h1 := (own_lt ho q).1
      have h2 : (w.alloc (.cells #[] 55)).heap.size = w.heap.size + 1 := by simp
      omega)
    have HO0 : Hid (OwnX fF 55 w1 w.heap.size (.slice (some ⟨w.heap.size, 0, none⟩) 0 0) ([] : List Nat)) := Lib.hid (OwnX.later (w := w.alloc (.cells #[] 55)) (World.ownsRow_made _ _ 0 (Nat.le_refl _) (by unfold maxLen; omega) rfl) hb)
    clear ho hb HC
    by_cases h65 : 256 < xs.length
    · go_wp2
      go_ret2
      exact HNO.out _ (HLONG.out h65) HB0.out
    go_wp2_with fail
    go_loopw [4, 6] (fun o i wr => ∃ k g c : Nat, k ≤ xs.length ∧ o = .slice (some ⟨g, 0, none⟩) k c ∧ i = .int .i64 k ∧ OwnX fF 55 wr w.heap.size o ((xs.take k).filterMap rh) ∧ Hid (((xs.take k).filterMap rh).length = k) ∧ Hid (∀ (i : Nat) x, xs[i]? = some x → i < k → (rh x).isSome = true) ∧ Hid ((Value.slice a xs.length cap).ownBlock ≠ some g) ∧ OwnX fS 9 wr (w.alloc (.cells #[] 55)).heap.size (.slice a xs.length cap) xs ∧ Below w.heap.size w wr) (fun _ i _ => xs.length - (RowKit.intOf i).toNat)
    case atStart => exact ⟨0, _, _, Nat.zero_le _, rfl, rfl, HO0.out, Lib.hid rfl, Lib.hid (fun _ _ _ h => by omega), HNE, HP.out, HB0.out⟩
    clear HO0 HNE HP HB0
    case round =>
      obtain ⟨k, g, c, hk, rfl, rfl, hown, HKL, HA, HNE, hp, hbel⟩ := hrel
      have HB := Lib.hid hbel; have HO := Lib.hid hown; have HP := Lib.hid hp
      have hsz := hbel.size
      clear hbel hown
      by_cases hlt : k < xs.length
      · obtain ⟨x, hx⟩ := at_of_lt hlt
        obtain ⟨b, off, rfl, hb, hc1⟩ := hp.XS.at.2.2.out k x hx
        have HX := Lib.hid hx
        have hxs : (x.size : Int) ≤ 1048576 := by have := HWS.out k x hx; omega
        clear hx hp
        by_cases h8 : x.size = 8
        · have h8i : (x.size : Int) = 8 := by omega
          have h8n : ((x.size : Int) != 8) = false := by simp; omega
          have H8 := Lib.hid h8
          clear h8 hxs
          go_wp2_with fail
          go_loopw [7, 8] (fun vn vj wr' => ∃ (j n : Nat) (a : Int), j ≤ 8 ∧ vj = .int .i64 j ∧ vn = .int .i64 a ∧ Hid (a = (n : Int) ∧ hacc (x.data.toList.take j) 0 = some n) ∧ wr' = wr) (fun _ vj _ => 8 - (RowKit.intOf vj).toNat)
          case atStart => exact ⟨0, 0, 0, by omega, rfl, rfl, Lib.hid ⟨rfl, rfl⟩, rfl⟩
          case round =>
            obtain ⟨j, n, a, hj, rfl, rfl, HN, rfl⟩ := hrel
            have a0 : 0 ≤ a := by have := HN.out.1; omega
            by_cases hj8 : j < 8
            · have hjx : j < x.size := by have := H8.out; omega
              have HBX := Lib.hid (at_byte x j hjx)
              obtain ⟨b8, hb8⟩ : ∃ b8, x[j] = b8 := ⟨_, rfl⟩
              rw [hb8] at HBX
              obtain ⟨c8, hc8⟩ : ∃ c8 : Int, (b8.toNat : Int) = c8 := ⟨_, rfl⟩
              have c0 : 0 ≤ c8 := by omega
              have c1 : c8 ≤ 255 := by have := b8.toNat_lt; omega
              have HC8 := Lib.hid hc8
              have a1 : a ≤ 268435455 := by
                have h1 := hacc_lt _ _ HN.out.2
                have h2 : (x.data.toList.take j).length ≤ 7 := by simp; omega
                have h3 : 16 ^ (x.data.toList.take j).length ≤ 16 ^ 7 := Nat.pow_le_pow_right (by decide) h2
                have h4 : (16 : Nat) ^ 7 = 268435456 := by decide
                have := HN.out.1
                omega
              rcases (by omega : c8 < 48 ∨ (48 ≤ c8 ∧ c8 ≤ 57) ∨ (57 < c8 ∧ c8 < 97) ∨ (97 ≤ c8 ∧ c8 ≤ 102) ∨ 102 < c8) with q | ⟨q1, q2⟩ | ⟨q1, q2⟩ | ⟨q1, q2⟩ | q
              · have HZ := Lib.hid (HBAD.out k x HX.out (rh_byte HBX.out (by have := HC8.out; rw [hval, if_neg (by omega), if_neg (by omega)])))
                go_wp2
                go_ret2
                exact HNO.out _ HZ.out HB.out
              · obtain ⟨d, hd⟩ : ∃ d, b8.toNat - 48 = d := ⟨_, rfl⟩
                have HDV : Hid (hval b8 = some d) := Lib.hid (by have := HC8.out; rw [hval, if_pos (by omega), hd])
                have HDN : Hid (c8 - 48 = (d : Int)) := Lib.hid (by have := HC8.out; omega)
                clear hd
                have HN2 : Hid (16 * a + (c8 - 48) = ((16 * n + d : Nat) : Int) ∧ hacc (x.data.toList.take (j + 1)) 0 = some (16 * n + d)) := Lib.hid (by
                  have h1 := HN.out.1; have h2 := HDN.out
                  exact ⟨by omega, hacc_step HN.out.2 HBX.out HDV.out⟩)
                clear HN
                go_wp2
                go_roundw
                case rel => exact ⟨j + 1, 16 * n + d, 16 * a + (c8 - 48), by omega, by go_num, rfl, HN2, trivial⟩
                case measure => simp [RowKit.intOf]; omega
              · have HZ := Lib.hid (HBAD.out k x HX.out (rh_byte HBX.out (by have := HC8.out; rw [hval, if_neg (by omega), if_neg (by omega)])))
                go_wp2
                go_ret2
                exact HNO.out _ HZ.out HB.out
              · obtain ⟨d, hd⟩ : ∃ d, b8.toNat - 87 = d := ⟨_, rfl⟩
                have HDV : Hid (hval b8 = some d) := Lib.hid (by have := HC8.out; rw [hval, if_neg (by omega), if_pos (by omega), hd])
                have HDN : Hid (c8 - 97 + 10 = (d : Int)) := Lib.hid (by have := HC8.out; omega)
                clear hd
                have HN2 : Hid (16 * a + (c8 - 97 + 10) = ((16 * n + d : Nat) : Int) ∧ hacc (x.data.toList.take (j + 1)) 0 = some (16 * n + d)) := Lib.hid (by
                  have h1 := HN.out.1; have h2 := HDN.out
                  exact ⟨by omega, hacc_step HN.out.2 HBX.out HDV.out⟩)
                clear HN
                go_wp2
                go_roundw
                case rel => exact ⟨j + 1, 16 * n + d, 16 * a + (c8 - 97 + 10), by omega, by go_num, rfl, HN2, trivial⟩
                case measure => simp [RowKit.intOf]; omega
              · have HZ := Lib.hid (HBAD.out k x HX.out (rh_byte HBX.out (by have := HC8.out; rw [hval, if_neg (by omega), if_neg (by omega)])))
                go_wp2
                go_ret2
                exact HNO.out _ HZ.out HB.out
            · obtain rfl : j = 8 := by omega
              have hfull : hacc x.data.toList 0 = some n := by
                have := HN.out.2
                rwa [List.take_of_length_le (by have := H8.out; simp; omega)] at this
              have hwn : W32 n := by
                have h1 := hacc_lt _ _ hfull
                have h2 : x.data.toList.length = 8 := by have := H8.out; simpa using this
                rw [h2, pow16_8] at h1
                exact h1
              obtain rfl : a = (n : Int) := HN.out.1
              have HFX := Lib.hid (HFR.out n hwn)
              have HBB := Lib.hid (HBT.out n hwn)
              have hbe := nb_bt n
              rw [hbe] at HBB
              have HRH : Hid (rh x = if nb n = n then some n else none) := Lib.hid (rh_full H8.out hfull)
              have hni : (n : Int) ≤ 4294967295 := by have := hwn.le; omega
              clear hfull hwn HN hbe
              go_wp2_with fail
              refine (HFX.out _).mono ?_
              rintro e w2 ⟨rfl, q0, hw⟩
              have hb2 : Below wr.heap.size wr w2 := by rw [hw]; exact below_dn4 (Below.refl _ _) q0
              have HB2 := Lib.hid (HB.out.trans (hb2.mono hsz))
              have HO2 := Lib.hid (HO.out.later hb2)
              have HP2 := Lib.hid (HP.out.later hb2)
              have hsz2 := HB2.out.size
              clear hb2 hw hc1 HB HO HP HFX
              go_wp2_with fail
              refine (HBB.out _).mono ?_
              rintro e w3 ⟨rfl, q0, hw⟩
              have hb3 : Below w2.heap.size w2 w3 := by rw [hw]; exact below_dn4 (Below.refl _ _) q0
              have HB3 := Lib.hid (HB2.out.trans (hb3.mono hsz2))
              have HO3 := Lib.hid (HO2.out.later hb3)
              have HP3 := Lib.hid (HP2.out.later hb3)
              have hsz3 := HB3.out.size
              clear hb3 hw HB2 HO2 HP2 HBB
              by_cases hnn : nb n = n
              · have hrd : rh x = some n := by rw [HRH.out, if_pos hnn]
                have hnn2 : ((nb n : Int) != (n : Int)) = false := by rw [hnn]; simp
                have HN : Hid (∀ (i : Nat) x, xs[i]? = some x → i < k + 1 → (rh x).isSome = true) := Lib.hid fun i y hy hi => by
                  rcases Nat.lt_or_ge i k with q | q
                  · exact HA.out i y hy q
                  · obtain rfl : i = k := by omega
                    obtain rfl := Option.some.inj (hy.symm.trans HX.out)
                    rw [hrd]; rfl
                have HTK := Lib.hid (fh_take HX.out hrd)
                have hkl : (((xs.take k).filterMap rh).length : Int) ≤ 256 := by have := HKL.out; omega
                have hkl2 := HKL.out
                clear hrd hnn HRH
                generalize nb n = n' at *
                go_wp2_with (at_builtin; refine wpList_append_own_at _ rfl (.tmp 74) (.tmp 76) 31 rfl w.heap.size 55 iF (.float .f32 0) 1 4 Tryd.underlying31 hi hz0 hz1 hz2 rfl (by decide) (.slice (some ⟨g, 0, none⟩) k c) ((xs.take k).filterMap rh).length (((xs.take k).filterMap rh).map fF) rfl (World.ownsRow.alloc HO3.out _) ⟨w3.heap.size, 0, none⟩ 1 1 [.float .f32 n] rfl rfl (news4 w3 _ _) (fun u hu => by simp at hu; subst hu; rfl) (by unfold maxLen; omega) (by omega) (by simp; omega) ?_)
                intro v4 w4 ho hg hnil hat
                obtain ⟨g1, c1, rfl, hown⟩ := own_push2 (by rw [hkl2]) ho
                have hlen : ((xs.take k).filterMap rh ++ [n]).length = k + 1 := by simp [hkl2]
                rw [← HTK.out] at hown hlen
                have HO4 := Lib.hid hown; have HL4 := Lib.hid hlen
                have HB4 := Lib.hid (push_below HB3.out HO3.out hg)
                have HP4 := Lib.hid (push_keep HP3.out HNE.out hg)
                have HNE4 := Lib.hid (push_ne HP3.out HNE.out hat)
                clear ho hg hnil hat hown hlen hkl hkl2 HO3 HB3 HP3
                go_wp2
                go_roundw
                case rel => exact ⟨k + 1, g1, c1, by omega, rfl, by go_num, HO4.out, HL4, HN, HNE4, HP4.out, HB4.out⟩
                case measure => simp [RowKit.intOf]; omega
              · have HZ := Lib.hid (HBAD.out k x HX.out (by rw [HRH.out, if_neg hnn]))
                have hnn2 : ((nb n : Int) != (n : Int)) = true := by simp; omega
                clear hnn HRH
                generalize nb n = n' at *
                go_wp2
                go_ret2
                exact HNO.out _ HZ.out HB3.out
        · have HZ := Lib.hid (HBAD.out k x HX.out (rh_size h8))
          have h8n : ((x.size : Int) != 8) = true := by simp; omega
          clear h8
          go_wp2
          go_ret2
          exact HNO.out _ HZ.out HB.out
      · obtain rfl : k = xs.length := by omega
        have HZ := Lib.hid (HGOOD.out (fun i x hx => HA.out i x hx (List.getElem?_eq_some_iff.1 hx).1) (by omega))
        have hkl := HKL.out
        have ho := HO.out
        rw [List.take_length] at hkl ho
        have HO' := Lib.hid ho; have HKL' := Lib.hid hkl
        clear hkl ho hp
        go_wp2
        go_ret2
        exact HYES.out _ _ _ _ HZ.out HKL'.out HO'.out HB.out

theorem spec_ReadNumbers (w : World) (s : ByteArray) (hs : s.size ≤ 1048576) : Calls Tryd.prog 29 #[.string s] w (RetF w s) := by
  have H := Lib.hid (spec_l01NRead w s hs)
  go_enter Tryd.func29, Tryd.ntmps29
  go_wp2_with fail
  refine H.out.mono ?_
  rintro e w1 ⟨a, cap, rfl, ho, hb⟩
  have HO := Lib.hid ho; have HB := Lib.hid hb
  clear ho hb H
  go_wp2
  go_ret2
  exact ⟨_, _, rfl, HO.out, HB.out⟩

end Go.Proofs.YtcaceplnlfmejaaDoor
