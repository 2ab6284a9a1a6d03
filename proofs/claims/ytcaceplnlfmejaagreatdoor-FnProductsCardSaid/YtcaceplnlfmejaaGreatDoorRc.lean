/- ReadComplex: the walk of the program. -/
import Derived.Test.YtcaceplnlfmejaaGreatDoorCf
namespace Go.Proofs.YtcaceplnlfmejaaGreatDoor
open Fl Go.RowKit

/-- The two parts of a text of sixteen digits. -/
def rc (x : ByteArray) : Option (Nat × Nat) := if x.size = 16 then (match rh (x.extract 0 8), rh (x.extract 8 16) with | some a, some b => some (a, b) | _, _ => none) else none
def someC (x : ByteArray) : Bool := (rc x).isSome
def rcOk (s : ByteArray) : Bool := (wordsB s).all someC && decide ((wordsB s).length ≤ 256)
def rcL (s : ByteArray) : List (Nat × Nat) := if rcOk s then (wordsB s).filterMap rc else []
theorem rcL_no {s : ByteArray} (h : rcOk s = false) : rcL s = [] := by rw [rcL, h]; rfl
theorem rcL_yes {s : ByteArray} (h : rcOk s = true) : rcL s = (wordsB s).filterMap rc := by rw [rcL, h]; rfl
theorem rcOk_none : rcOk nonB = true := by rw [rcOk, wordsB_none]; rfl
theorem rc_bad {s x : ByteArray} {k : Nat} (hx : (wordsB s)[k]? = some x) (h : rc x = none) : rcOk s = false := by
  have : (wordsB s).all someC = false := by
    rw [List.all_eq_false]
    exact ⟨x, List.mem_of_getElem? hx, by simp [someC, h]⟩
  rw [rcOk, this]; rfl
theorem rc_long {s : ByteArray} (h : 256 < (wordsB s).length) : rcOk s = false := by
  rw [rcOk, decide_eq_false (by omega), Bool.and_false]
theorem rc_good {s : ByteArray} (h : ∀ (i : Nat) x, (wordsB s)[i]? = some x → (rc x).isSome = true) (hl : (wordsB s).length ≤ 256) : rcOk s = true := by
  have : (wordsB s).all someC = true := by
    rw [List.all_eq_true]
    intro x hx
    obtain ⟨i, hi⟩ := List.getElem?_of_mem hx
    exact h i x hi
  rw [rcOk, this, decide_eq_true hl]; rfl
theorem fc_take {xs : List ByteArray} {k : Nat} {x : ByteArray} {n : Nat × Nat} (hx : xs[k]? = some x) (h : rc x = some n) : (xs.take (k + 1)).filterMap rc = (xs.take k).filterMap rc ++ [n] := by
  rw [List.take_add_one, hx]
  simp [h]
/-- What a reading of a list returns. -/
def RetC4 (w : World) (s : ByteArray) (e : Ending) (w' : World) : Prop := ∃ a cap, e = .returned (.tuple #[.slice a (rcL s).length cap, .bool (rcOk s)]) ∧ OwnX fC 24 w' w.heap.size (.slice a (rcL s).length cap) (rcL s) ∧ Below w.heap.size w w'
theorem RetC4.no {w w' : World} {s : ByteArray} (h : rcOk s = false) (hb : Below w.heap.size w w') : RetC4 w s (.returned (.tuple #[.slice none 0 0, .bool false])) w' := by
  refine ⟨none, 0, by rw [h, rcL_no h]; rfl, ?_, hb⟩
  rw [rcL_no h]
  exact nil_own _ _ _ _
theorem RetC4.yes {w w' : World} {s : ByteArray} {a : Option Addr} {n cap : Nat} (h : rcOk s = true) (hn : ((wordsB s).filterMap rc).length = n) (ho : OwnX fC 24 w' w.heap.size (.slice a n cap) ((wordsB s).filterMap rc)) (hb : Below w.heap.size w w') : RetC4 w s (.returned (.tuple #[.slice a n cap, .bool true])) w' := by
  refine ⟨a, cap, by rw [h, rcL_yes h, hn], ?_, hb⟩
  rw [rcL_yes h, hn]
  exact ho

set_option maxRecDepth 20000 in
theorem impl_ReadComplex (w : World) (s : ByteArray) (hs : s.size ≤ 1048576) (hm : MaxL w) (ht : TzC w) (he : Errs w) : Calls Tryz.prog 18 #[.string s] w (RetC4 w s) := by
  obtain ⟨iF, hi, hz0, hz1, hz2⟩ := info_parts infoC
  have HC := Lib.hid (impl_partsOrNone w s hs hm)
  have HV := Lib.hid (fun (w' : World) x hx he ht => impl_readHex x w' hx he ht)
  have HT := Lib.hid ht; have HE := Lib.hid he
  have HBAD := Lib.hid (fun k x (hx : (wordsB s)[k]? = some x) => rc_bad hx)
  have HLONG := Lib.hid (rc_long (s := s)); have HGOOD := Lib.hid (rc_good (s := s))
  have hl : (((wordsB s).length : Nat) : Int) ≤ 1048577 := by
    have := (parts_len s).2
    unfold wordsB
    split
    · simp
    · omega
  have HWS := Lib.hid (fun k x (hx : (wordsB s)[k]? = some x) => words_size hx)
  have HYES := Lib.hid (fun (w' : World) a n cap => RetC4.yes (w := w) (w' := w') (s := s) (a := a) (n := n) (cap := cap))
  have HNO := Lib.hid (fun (w' : World) => RetC4.no (w := w) (w' := w') (s := s))
  clear hm ht he
  generalize wordsB s = xs at *
  go_enter Tryz.func18, Tryz.ntmps18
  go_wp2_with fail
  refine HC.out.mono ?_
  rintro e w1 ⟨a, cap, rfl, ho, hb⟩
  have hsz1 := hb.size
  have HP := Lib.hid (OwnX.later ho ((Below.refl w1.heap.size w1).alloc (Nat.le_refl _) (.cells #[] 24)))
  have HB0 := Lib.hid (hb.alloc hsz1 (.cells #[] 24))
  have HNE : Hid ((Value.slice a xs.length cap).ownBlock ≠ some w1.heap.size) := Lib.hid (by
    intro q
    have h1 := (own_lt ho q).2
    omega)
  have HO0 : Hid (OwnX fC 24 (w1.alloc (.cells #[] 24)) w.heap.size (.slice (some ⟨w1.heap.size, 0, none⟩) 0 0) ([] : List (Nat × Nat))) := Lib.hid (World.ownsRow_made _ _ 0 hsz1 (by unfold maxLen; omega) rfl)
  clear ho hb HC
  go_wp2_with fail
  go_loopw [5, 17] (fun o i wr => ∃ k g c : Nat, k ≤ xs.length ∧ (256 < xs.length → k = 0) ∧ o = .slice (some ⟨g, 0, none⟩) k c ∧ i = .int .i64 k ∧ OwnX fC 24 wr w.heap.size o ((xs.take k).filterMap rc) ∧ Hid (((xs.take k).filterMap rc).length = k) ∧ Hid (∀ (i : Nat) x, xs[i]? = some x → i < k → (rc x).isSome = true) ∧ Hid ((Value.slice a xs.length cap).ownBlock ≠ some g) ∧ OwnX fS 9 wr w.heap.size (.slice a xs.length cap) xs ∧ Below w.heap.size w wr) (fun _ i _ => xs.length - (RowKit.intOf i).toNat)
  case atStart => exact ⟨0, _, _, Nat.zero_le _, fun _ => rfl, rfl, rfl, HO0.out, Lib.hid rfl, Lib.hid (fun _ _ _ h => by omega), HNE, HP.out, HB0.out⟩
  clear HO0 HNE HP HB0
  case round =>
    obtain ⟨k, g, c, hk, h64, rfl, rfl, hown, HKL, HA, HNE, hp, hbel⟩ := hrel
    have HB := Lib.hid hbel; have HO := Lib.hid hown; have HP := Lib.hid hp
    have hsz := hbel.size
    have HT1 := Lib.hid (HT.out.later hbel); have HE1 := Lib.hid (HE.out.later hbel)
    clear hbel hown
    by_cases hlt : k < xs.length
    · obtain ⟨x, hx⟩ := at_of_lt hlt
      obtain ⟨b, off, rfl, hb, hc1⟩ := hp.XS.at.2.2.out k x hx
      have HX := Lib.hid hx
      have hxs : (x.size : Int) ≤ 1048576 := by have := HWS.out k x hx; omega
      clear hx hp
      by_cases h16 : x.size = 16
      · have h16n : ((x.size : Int) != 16) = false := by simp; omega
        have h16i : (x.size : Int) = 16 := by omega
        by_cases h256 : 256 < xs.length
        · have HZ := Lib.hid (HLONG.out h256)
          have hk0 := h64 h256
          subst hk0
          rw [Nat.add_zero] at hc1
          clear hxs h64
          go_wp2
          go_ret2
          exact HNO.out _ HZ.out HB.out
        obtain ⟨x1, hx1⟩ : ∃ x1, x.extract 0 8 = x1 := ⟨_, rfl⟩
        obtain ⟨x2, hx2⟩ : ∃ x2, x.extract 8 16 = x2 := ⟨_, rfl⟩
        have hs1 : x1.size ≤ 1048576 := by rw [← hx1, ByteArray.size_extract]; omega
        have hs2 : x2.size ≤ 1048576 := by rw [← hx2, ByteArray.size_extract]; omega
        have HR1 := Lib.hid (HV.out wr x1 hs1 HE1.out HT1.out)
        have HR2 := Lib.hid (fun w' => HV.out w' x2 hs2)
        have HRC : Hid (rc x = match rh x1, rh x2 with | some a, some b => some (a, b) | _, _ => none) := Lib.hid (by rw [rc, if_pos h16, hx1, hx2])
        have hszN : x.size = 16 := h16
        clear hxs h16 hs1 hs2
        go_wp2_with fail
        refine HR1.out.mono ?_
        rintro e w2 ⟨n1, ok1, rfl, hwn1, hor1, hb2⟩
        have HB2 := Lib.hid (HB.out.trans (hb2.mono hsz))
        have HO2 := Lib.hid (HO.out.later hb2)
        have HP2 := Lib.hid (HP.out.later hb2)
        have HT2 := Lib.hid (HT1.out.later hb2); have HE2 := Lib.hid (HE1.out.later hb2)
        have hsz2 := HB2.out.size
        have HOR1 := Lib.hid hor1
        clear hb2 hc1 HB HO HP hwn1 hor1 HR1 HT1 HE1
        go_wp2_with fail
        refine (HR2.out w2 HE2.out HT2.out).mono ?_
        rintro e w3 ⟨n2, ok2, rfl, hwn2, hor2, hb3⟩
        have HB3 := Lib.hid (HB2.out.trans (hb3.mono hsz2))
        have HO3 := Lib.hid (HO2.out.later hb3)
        have HP3 := Lib.hid (HP2.out.later hb3)
        have hsz3 := HB3.out.size
        have HOR2 := Lib.hid hor2
        clear hb3 HB2 HO2 HP2 hwn2 hor2 HT2 HE2 HR2
        rcases HOR1.out with ⟨rfl, hr1⟩ | ⟨rfl, hr1⟩
        · rcases HOR2.out with ⟨rfl, hr2⟩ | ⟨rfl, hr2⟩
          · have hrd : rc x = some (n1, n2) := by rw [HRC.out, hr1, hr2]
            have HN : Hid (∀ (i : Nat) x, xs[i]? = some x → i < k + 1 → (rc x).isSome = true) := Lib.hid fun i y hy hi => by
              rcases Nat.lt_or_ge i k with q | q
              · exact HA.out i y hy q
              · obtain rfl : i = k := by omega
                obtain rfl := Option.some.inj (hy.symm.trans HX.out)
                rw [hrd]; rfl
            have HTK := Lib.hid (fc_take HX.out hrd)
            clear hrd hr1 hr2
            have hkl : (((xs.take k).filterMap rc).length : Int) ≤ 256 := by have := HKL.out; omega
            have hkl2 := HKL.out
            go_wp2_with (at_builtin; refine wpList_append_own_at _ rfl (.tmp 47) (.tmp 51) 25 rfl w.heap.size 24 iF (.complex .f32 0 0) 1 8 Tryz.underlying25 hi hz0 hz1 hz2 rfl (by decide) (.slice (some ⟨g, 0, none⟩) k c) ((xs.take k).filterMap rc).length (((xs.take k).filterMap rc).map fC) rfl (World.ownsRow.alloc HO3.out _) ⟨w3.heap.size, 0, none⟩ 1 1 [.complex .f32 n1 n2] rfl rfl (news4 w3 _ _) (fun u hu => by simp at hu; subst hu; rfl) (by unfold maxLen; omega) (by omega) (by simp; omega) ?_)
            intro v4 w4 ho hg hnil hat
            obtain ⟨g1, c1, rfl, hown⟩ := own_push2 (x := (n1, n2)) (f := fC) (by rw [hkl2]) ho
            have hlen : ((xs.take k).filterMap rc ++ [(n1, n2)]).length = k + 1 := by simp [hkl2]
            rw [← HTK.out] at hown hlen
            have HO4 := Lib.hid hown; have HL4 := Lib.hid hlen
            have HB4 := Lib.hid (push_below HB3.out HO3.out hg)
            have HP4 := Lib.hid (push_keep HP3.out HNE.out hg)
            have HNE4 := Lib.hid (push_ne HP3.out HNE.out hat)
            clear ho hg hnil hat hown hlen hkl hkl2 HO3 HB3 HP3
            go_wp2
            go_roundw
            case rel => exact ⟨k + 1, g1, c1, by omega, fun q => absurd q h256, rfl, by go_num, HO4.out, HL4, HN, HNE4, HP4.out, HB4.out⟩
            case measure => simp [RowKit.intOf]; omega
          · have HZ := Lib.hid (HBAD.out k x HX.out (by rw [HRC.out, hr1, hr2]))
            clear hr1 hr2
            go_wp2
            go_ret2
            exact HNO.out _ HZ.out HB3.out
        · have HZ := Lib.hid (HBAD.out k x HX.out (by rw [HRC.out, hr1]))
          clear hr1
          go_wp2
          go_ret2
          exact HNO.out _ HZ.out HB3.out
      · have HZ := Lib.hid (HBAD.out k x HX.out (by rw [rc, if_neg h16]))
        have h16n : ((x.size : Int) != 16) = true := by simp; omega
        clear h16 hxs
        go_wp2
        go_ret2
        exact HNO.out _ HZ.out HB.out
    · obtain rfl : k = xs.length := by omega
      have h65 : ¬ 256 < xs.length := fun q => by have := h64 q; omega
      have HZ := Lib.hid (HGOOD.out (fun i x hx => HA.out i x hx (List.getElem?_eq_some_iff.1 hx).1) (by omega))
      have hkl := HKL.out
      have ho := HO.out
      rw [List.take_length] at hkl ho
      have HO' := Lib.hid ho; have HKL' := Lib.hid hkl
      clear hkl ho hp
      go_wp2
      go_ret2
      exact HYES.out _ _ _ _ HZ.out HKL'.out HO'.out HB.out

end Go.Proofs.YtcaceplnlfmejaaGreatDoor
