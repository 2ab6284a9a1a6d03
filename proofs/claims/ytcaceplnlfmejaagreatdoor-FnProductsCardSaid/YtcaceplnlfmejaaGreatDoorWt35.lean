/- A number in hexadecimal: the readers of the program and of the reference. -/
import Derived.Test.YtcaceplnlfmejaaGreatDoorWt34
import Derived.Test.YtcaceplnlfmejaaGreatDoorWt29
import Derived.Test.YtcaceplnlfmejaaGreatDoorSte
namespace Go.Proofs.YtcaceplnlfmejaaGreatDoor
open Fl Go.RowKit

def PV (s : ByteArray) (w : World) (e : Ending) (w' : World) : Prop := ∃ v err, e = .returned (.tuple #[.int .u64 v, err]) ∧ (0 ≤ v ∧ v ≤ 4294967295) ∧ (err = .nilIface ∨ ∃ t N, err = .iface t (.pointer (some ⟨N, 0, none⟩))) ∧ (∀ m, m < 4294967296 → s = hexB m → err = .nilIface ∧ v = m) ∧ Below w.heap.size w w'

theorem PV.ok {s : ByteArray} {w w' : World} {v : Int} (hv : 0 ≤ v ∧ v ≤ 4294967295) (h : ∀ m : Nat, m < 4294967296 → s = hexB m → v = m) (hb : Below w.heap.size w w') : PV s w (.returned (.tuple #[.int .u64 v, .nilIface])) w' :=
  ⟨_, _, rfl, hv, .inl rfl, fun m h1 h2 => ⟨rfl, h m h1 h2⟩, hb⟩
theorem PV.no {s : ByteArray} {w w' : World} {v : Int} {t : TypeId} {N : Nat} (hv : 0 ≤ v ∧ v ≤ 4294967295) (h : ∀ m, m < 4294967296 → s ≠ hexB m) (hb : Below w.heap.size w w') : PV s w (.returned (.tuple #[.int .u64 v, .iface t (.pointer (some ⟨N, 0, none⟩))])) w' :=
  ⟨_, _, rfl, hv, .inr ⟨_, _, rfl⟩, fun m h1 h2 => absurd h2 (h m h1), hb⟩
theorem parseUint_call (s : ByteArray) (w : World) (hs : s.size ≤ 1048576) (he : Errs w) : Calls Tryz.prog 78 #[.string s, .int .i64 16, .int .i64 32] w (PV s w) := by
  have HP := Lib.hid (parseUint_16 s w hs)
  have HE := Lib.hid he
  have hs2 : s.size ≤ 281474976710656 := by omega
  have HS := Lib.hid (fun w t p h => Tryz.strconv_toError_syntax ⟨#[80, 97, 114, 115, 101, 85, 105, 110, 116]⟩ s 16 32 (.iface t p) w hs2 h (.inr ⟨_, _, rfl⟩))
  have HR := Lib.hid (fun w t p h => Tryz.strconv_toError_range ⟨#[80, 97, 114, 115, 101, 85, 105, 110, 116]⟩ s 16 32 (.iface t p) w hs2 h (.inr ⟨_, _, rfl⟩))
  clear he hs hs2
  go_enter Tryz.func78, Tryz.ntmps78
  go_wp2_with fail
  refine HP.out.mono ?_
  rintro e w1 ⟨v, err, rfl, hv, her, hm, hb⟩
  have HV := Lib.hid hv
  have HB := Lib.hid hb
  obtain ⟨⟨t1, p1, e1⟩, ⟨t2, p2, e2⟩, _⟩ := HE.out.later hb
  have E1 := Lib.hid e1; have E2 := Lib.hid e2
  have hsz := hb.size
  clear hv hb HP e1 e2
  rcases her with rfl | rfl | rfl
  · have HM : Hid (∀ m : Nat, m < 4294967296 → s = hexB m → v = m) := Lib.hid (fun m h1 h2 => (hm m h1 h2).2)
    clear hm
    go_wp2
    go_ret2
    exact PV.ok HV.out HM.out HB.out
  · have HM : Hid (∀ m, m < 4294967296 → s ≠ hexB m) := Lib.hid (fun m h1 h2 => by have := (hm m h1 h2).1; cases this)
    clear hm
    go_wp2_with fail
    refine (HS.out w1 t1 p1 E1.out).mono ?_
    rintro e w2 ⟨N, rfl, _, _, hb⟩
    have HB2 := Lib.hid (HB.out.trans (hb.mono hsz))
    clear hb
    go_wp2
    go_ret2
    exact PV.no HV.out HM.out HB2.out
  · have HM : Hid (∀ m, m < 4294967296 → s ≠ hexB m) := Lib.hid (fun m h1 h2 => by have := (hm m h1 h2).1; cases this)
    clear hm
    go_wp2_with fail
    refine (HR.out w1 t2 p2 E2.out).mono ?_
    rintro e w2 ⟨N, rfl, _, _, hb⟩
    have HB2 := Lib.hid (HB.out.trans (hb.mono hsz))
    clear hb
    go_wp2
    go_ret2
    exact PV.no HV.out HM.out HB2.out

/-- What the program's reader of one number returns. -/
def RH (s : ByteArray) (w : World) (e : Ending) (w' : World) : Prop := ∃ x b, e = .returned (.tuple #[.float .f32 x, .bool b]) ∧ W32 x ∧ ((b = true ∧ rh s = some x) ∨ (b = false ∧ rh s = none)) ∧ Below w.heap.size w w'
theorem RH.yes {s : ByteArray} {w w' : World} {x : Nat} (hw : W32 x) (h : rh s = some x) (hb : Below w.heap.size w w') : RH s w (.returned (.tuple #[.float .f32 x, .bool true])) w' := ⟨_, _, rfl, hw, .inl ⟨rfl, h⟩, hb⟩
theorem RH.no {s : ByteArray} {w w' : World} {x : Nat} (hw : W32 x) (h : rh s = none) (hb : Below w.heap.size w w') : RH s w (.returned (.tuple #[.float .f32 x, .bool false])) w' := ⟨_, _, rfl, hw, .inr ⟨rfl, h⟩, hb⟩
theorem rh_iff_some {s : ByteArray} {m : Nat} (hm : m < 4294967296) (h : s = hexB m) (hn : nb m = m) : rh s = some m := by rw [h, rh_hexB hm, if_pos hn]

set_option maxRecDepth 20000 in
theorem impl_readHex (s : ByteArray) (w : World) (hs : s.size ≤ 1048576) (he : Errs w) (ht : TzC w) : Calls Tryz.prog 49 #[.string s] w (RH s w) := by
  have HP := Lib.hid (parseUint_call s w hs he)
  have HT := Lib.hid ht
  have k32 := f32from
  clear he ht
  go_enter Tryz.func49, Tryz.ntmps49
  go_wp2_with fail
  refine HP.out.mono ?_
  rintro e w1 ⟨v, err, rfl, ⟨v0, v1⟩, her, hm, hb⟩
  have HM := Lib.hid hm
  have HB := Lib.hid hb
  have hsz := hb.size
  have HT1 := Lib.hid (HT.out.later hb)
  obtain ⟨x, hx⟩ : ∃ x : Nat, v.toNat = x := ⟨_, rfl⟩
  have hvx : v = (x : Int) := by omega
  have hwx : W32 x := by unfold W32; omega
  have HW := Lib.hid hwx
  have HH := Lib.hid (impl_hexOf w1 x hwx HT1.out)
  have HVX := Lib.hid hvx
  clear hm hb HP hwx hvx
  rcases her with rfl | ⟨t, N, rfl⟩
  · have HM' : Hid (∀ m : Nat, m < 4294967296 → s = hexB m → x = m) := Lib.hid (fun m h1 h2 => by have := (HM.out m h1 h2).2; have := HVX.out; omega)
    clear HM
    go_wp2_with fail
    refine HH.out.mono ?_
    rintro e w2 ⟨rfl, hb⟩
    have HB2 := Lib.hid (HB.out.trans (hb.mono hsz))
    clear hb
    by_cases hEq : hexB (nb x) = s
    · have hlt := nb_lt HW.out
      have hnx := HM'.out (nb x) hlt hEq.symm
      have HZ := Lib.hid (rh_iff_some (s := s) (m := x) HW.out (hEq.symm.trans (congrArg hexB hnx.symm)) hnx.symm)
      have heq2 : ((hexB (nb x)).toList == s.toList) = true := by rw [hEq]; simp
      generalize hexB (nb x) = u at *
      clear hEq hlt hnx
      go_wp2
      go_ret2
      exact RH.yes HW.out HZ.out HB2.out
    · have HZ : Hid (rh s = none) := Lib.hid (by
        cases h : rh s with
        | none => rfl
        | some m =>
          obtain ⟨h1, h2, h3⟩ := rh_some h
          have hxm := HM'.out m h1 h3
          exact absurd (by rw [hxm, h2, ← h3]) hEq)
      have hne := str_ne hEq
      generalize hexB (nb x) = u at *
      clear hEq
      go_wp2
      go_ret2
      exact RH.no HW.out HZ.out HB2.out
  · have HZ : Hid (rh s = none) := Lib.hid (by
      cases h : rh s with
      | none => rfl
      | some m =>
        obtain ⟨h1, h2, h3⟩ := rh_some h
        have := (HM.out m h1 h3).1
        cases this)
    clear HM
    go_wp2
    go_ret2
    exact RH.no HW.out HZ.out HB.out

end Go.Proofs.YtcaceplnlfmejaaGreatDoor
