/- ReadNumbers: the walks of the program and of the reference. -/
import Derived.Test.YtcaceplnlfmejaaGreatDoorWt35
import Derived.Test.YtcaceplnlfmejaaGreatDoorWt22
namespace Go.Proofs.YtcaceplnlfmejaaGreatDoor
open Fl Go.RowKit

def someH (x : ByteArray) : Bool := (rh x).isSome
def rnOk (s : ByteArray) : Bool := (wordsB s).all someH && decide ((wordsB s).length ≤ 256)
def rnL (s : ByteArray) : List Nat := if rnOk s then (wordsB s).filterMap rh else []
theorem rnL_no {s : ByteArray} (h : rnOk s = false) : rnL s = [] := by rw [rnL, h]; rfl
theorem rnL_yes {s : ByteArray} (h : rnOk s = true) : rnL s = (wordsB s).filterMap rh := by rw [rnL, h]; rfl
theorem rnOk_none : rnOk nonB = true := by rw [rnOk, wordsB_none]; rfl
theorem rn_bad {s x : ByteArray} {k : Nat} (hx : (wordsB s)[k]? = some x) (h : rh x = none) : rnOk s = false := by
  have : (wordsB s).all someH = false := by
    rw [List.all_eq_false]
    exact ⟨x, List.mem_of_getElem? hx, by simp [someH, h]⟩
  rw [rnOk, this]; rfl
theorem rn_long {s : ByteArray} (h : 256 < (wordsB s).length) : rnOk s = false := by
  rw [rnOk, decide_eq_false (by omega), Bool.and_false]
theorem rn_good {s : ByteArray} (h : ∀ (i : Nat) x, (wordsB s)[i]? = some x → (rh x).isSome = true) (hl : (wordsB s).length ≤ 256) : rnOk s = true := by
  have : (wordsB s).all someH = true := by
    rw [List.all_eq_true]
    intro x hx
    obtain ⟨i, hi⟩ := List.getElem?_of_mem hx
    exact h i x hi
  rw [rnOk, this, decide_eq_true hl]; rfl
theorem fh_take {xs : List ByteArray} {k : Nat} {x : ByteArray} {n : Nat} (hx : xs[k]? = some x) (h : rh x = some n) : (xs.take (k + 1)).filterMap rh = (xs.take k).filterMap rh ++ [n] := by
  rw [List.take_add_one, hx]
  simp [h]
/-- What a reading of a list returns. -/
def RetF (w : World) (s : ByteArray) (e : Ending) (w' : World) : Prop := ∃ a cap, e = .returned (.tuple #[.slice a (rnL s).length cap, .bool (rnOk s)]) ∧ OwnX fF 28 w' w.heap.size (.slice a (rnL s).length cap) (rnL s) ∧ Below w.heap.size w w'
theorem RetF.no {w w' : World} {s : ByteArray} (h : rnOk s = false) (hb : Below w.heap.size w w') : RetF w s (.returned (.tuple #[.slice none 0 0, .bool false])) w' := by
  refine ⟨none, 0, by rw [h, rnL_no h]; rfl, ?_, hb⟩
  rw [rnL_no h]
  exact nil_own _ _ _ _
theorem RetF.yes {w w' : World} {s : ByteArray} {a : Option Addr} {n cap : Nat} (h : rnOk s = true) (hn : ((wordsB s).filterMap rh).length = n) (ho : OwnX fF 28 w' w.heap.size (.slice a n cap) ((wordsB s).filterMap rh)) (hb : Below w.heap.size w w') : RetF w s (.returned (.tuple #[.slice a n cap, .bool true])) w' := by
  refine ⟨a, cap, by rw [h, rnL_yes h, hn], ?_, hb⟩
  rw [rnL_yes h, hn]
  exact ho

set_option maxRecDepth 20000 in
theorem impl_ReadNumbers (w : World) (s : ByteArray) (hs : s.size ≤ 1048576) (hm : MaxL w) (ht : TzC w) (he : Errs w) : Calls Tryz.prog 32 #[.string s] w (RetF w s) := by
  obtain ⟨iF, hi, hz0, hz1, hz2⟩ := info_parts infoF
  have HC := Lib.hid (impl_partsOrNone w s hs hm)
  have HV := Lib.hid (fun (w' : World) x hx he ht => impl_readHex x w' hx he ht)
  have HT := Lib.hid ht; have HE := Lib.hid he
  have HBAD := Lib.hid (fun k x (hx : (wordsB s)[k]? = some x) => rn_bad hx)
  have HLONG := Lib.hid (rn_long (s := s)); have HGOOD := Lib.hid (rn_good (s := s))
  have hl : (((wordsB s).length : Nat) : Int) ≤ 1048577 := by
    have := (parts_len s).2
    unfold wordsB
    split
    · simp
    · omega
  have HWS := Lib.hid (fun k x (hx : (wordsB s)[k]? = some x) => words_size hx)
  have HYES := Lib.hid (fun (w' : World) a n cap => RetF.yes (w := w) (w' := w') (s := s) (a := a) (n := n) (cap := cap))
  have HNO := Lib.hid (fun (w' : World) => RetF.no (w := w) (w' := w') (s := s))
  clear hm ht he
  generalize wordsB s = xs at *
  go_enter Tryz.func32, Tryz.ntmps32
  go_wp2_with fail
  refine HC.out.mono ?_
  rintro e w1 ⟨a, cap, rfl, ho, hb⟩
  have hsz1 := hb.size
  have HP := Lib.hid (OwnX.later ho ((Below.refl w1.heap.size w1).alloc (Nat.le_refl _) (.cells #[] 28)))
  have HB0 := Lib.hid (hb.alloc hsz1 (.cells #[] 28))
  have HNE : Hid ((Value.slice a xs.length cap).ownBlock ≠ some w1.heap.size) := Lib.hid (by
    intro q
    have h1 := (own_lt ho q).2
    omega)
  have HO0 : Hid (OwnX fF 28 (w1.alloc (.cells #[] 28)) w.heap.size (.slice (some ⟨w1.heap.size, 0, none⟩) 0 0) ([] : List Nat)) := Lib.hid (World.ownsRow_made _ _ 0 hsz1 (by unfold maxLen; omega) rfl)
  clear ho hb HC
  go_wp2_with fail
  go_loopw [5, 15] (fun o i wr => ∃ k g c : Nat, k ≤ xs.length ∧ (256 < xs.length → k = 0) ∧ o = .slice (some ⟨g, 0, none⟩) k c ∧ i = .int .i64 k ∧ OwnX fF 28 wr w.heap.size o ((xs.take k).filterMap rh) ∧ Hid (((xs.take k).filterMap rh).length = k) ∧ Hid (∀ (i : Nat) x, xs[i]? = some x → i < k → (rh x).isSome = true) ∧ Hid ((Value.slice a xs.length cap).ownBlock ≠ some g) ∧ OwnX fS 9 wr w.heap.size (.slice a xs.length cap) xs ∧ Below w.heap.size w wr) (fun _ i _ => xs.length - (RowKit.intOf i).toNat)
  case atStart => exact ⟨0, _, _, Nat.zero_le _, fun _ => rfl, rfl, rfl, HO0.out, Lib.hid rfl, Lib.hid (fun _ _ _ h => by omega), HNE, HP.out, HB0.out⟩
  clear HO0 HNE HP HB0
  case round =>
    obtain ⟨k, g, c, hk, h64, rfl, rfl, hown, HKL, HA, HNE, hp, hbel⟩ := hrel
    have HB := Lib.hid hbel; have HO := Lib.hid hown; have HP := Lib.hid hp
    have hsz := hbel.size
    have HT1 := Lib.hid (HT.out.later hbel); have HE1 := Lib.hid (HE.out.later hbel)
    clear hbel hown
    by_cases hlt : k < xs.length
    · obtain ⟨x, hx⟩ := at_of_lt hlt
      obtain ⟨b, off, rfl, hb, hc1⟩ := hp.XS.at.2.2.out k x hx
      have HX := Lib.hid hx
      have hxs : x.size ≤ 1048576 := Nat.le_trans (HWS.out k x hx) hs
      have HRD := Lib.hid (HV.out wr x hxs HE1.out HT1.out)
      clear hx hxs hp
      go_wp2_with fail
      refine HRD.out.mono ?_
      rintro e w2 ⟨n, ok, rfl, hwn, hor, hb2⟩
      have HB2 := Lib.hid (HB.out.trans (hb2.mono hsz))
      have HO2 := Lib.hid (HO.out.later hb2)
      have HP2 := Lib.hid (HP.out.later hb2)
      have hsz2 := HB2.out.size
      have HWN := Lib.hid hwn
      clear hb2 hc1 HB HO HP hwn HRD
      rcases hor with ⟨rfl, hrd⟩ | ⟨rfl, hrd⟩
      · have HN : Hid (∀ (i : Nat) x, xs[i]? = some x → i < k + 1 → (rh x).isSome = true) := Lib.hid fun i y hy hi => by
          rcases Nat.lt_or_ge i k with q | q
          · exact HA.out i y hy q
          · obtain rfl : i = k := by omega
            obtain rfl := Option.some.inj (hy.symm.trans HX.out)
            rw [hrd]; rfl
        have HTK := Lib.hid (fh_take HX.out hrd)
        clear hrd
        by_cases h65 : 256 < xs.length
        · have HZ := Lib.hid (HLONG.out h65)
          go_wp2
          go_ret2
          exact HNO.out _ HZ.out HB2.out
        have hkl : (((xs.take k).filterMap rh).length : Int) ≤ 256 := by have := HKL.out; omega
        have hkl2 := HKL.out
        go_wp2_with (at_builtin; refine wpList_append_own_at _ rfl (.tmp 31) (.tmp 33) 52 rfl w.heap.size 28 iF (.float .f32 0) 1 4 Tryz.underlying52 hi hz0 hz1 hz2 rfl (by decide) (.slice (some ⟨g, 0, none⟩) k c) ((xs.take k).filterMap rh).length (((xs.take k).filterMap rh).map fF) rfl (World.ownsRow.alloc HO2.out _) ⟨w2.heap.size, 0, none⟩ 1 1 [.float .f32 n] rfl rfl (news4 w2 _ _) (fun u hu => by simp at hu; subst hu; rfl) (by unfold maxLen; omega) (by omega) (by simp; omega) ?_)
        intro v3 w3 ho hg hnil hat
        obtain ⟨g1, c1, rfl, hown⟩ := own_push2 (by rw [hkl2]) ho
        have hlen : ((xs.take k).filterMap rh ++ [n]).length = k + 1 := by simp [hkl2]
        rw [← HTK.out] at hown hlen
        have HO3 := Lib.hid hown; have HL3 := Lib.hid hlen
        have HB3 := Lib.hid (push_below HB2.out HO2.out hg)
        have HP3 := Lib.hid (push_keep HP2.out HNE.out hg)
        have HNE3 := Lib.hid (push_ne HP2.out HNE.out hat)
        clear ho hg hnil hat hown hlen hkl hkl2 HO2 HB2 HP2
        go_wp2
        go_roundw
        case rel => exact ⟨k + 1, g1, c1, by omega, fun q => absurd q h65, rfl, by go_num, HO3.out, HL3, HN, HNE3, HP3.out, HB3.out⟩
        case measure => simp [RowKit.intOf]; omega
      · have HZ := Lib.hid (HBAD.out k x HX.out hrd)
        clear hrd
        go_wp2
        go_ret2
        exact HNO.out _ HZ.out HB2.out
    · obtain rfl : k = xs.length := by omega
      have h65 : ¬ 256 < xs.length := fun q => by have := h64 q; omega
      have HZ := Lib.hid (HGOOD.out (fun i x hx => HA.out i x hx (List.getElem?_eq_some_iff.1 hx).1) (by omega))
      have hkl := HKL.out
      have ho := HO.out
      rw [List.take_length] at hkl ho
      have HO' := Lib.hid ho; have HKL' := Lib.hid hkl
      clear hkl ho hp
      go_wp2
      go_ret2
      exact HYES.out _ _ _ _ HZ.out HKL'.out HO'.out HB.out

end Go.Proofs.YtcaceplnlfmejaaGreatDoor
