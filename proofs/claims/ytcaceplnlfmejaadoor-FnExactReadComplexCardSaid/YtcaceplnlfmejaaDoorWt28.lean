/- The eight hexadecimal digits of a number. -/
import Derived.Test.YtcaceplnlfmejaaDoorWt27
import Derived.Test.YtcaceplnlfmejaaDoorWt21
import Derived.Test.YtcaceplnlfmejaaDoorSrep
namespace Go.Proofs.YtcaceplnlfmejaaDoor
open Fl Go.RowKit
open Lib (itoa decDigits parseIntB)

/-- The bits of a number, as a natural number. -/
def nb (b : Nat) : Nat := (bt b).toNat
theorem nb_bt (b : Nat) : bt b = ((nb b : Nat) : Int) := by
  have : 0 ≤ bt b := by unfold bt; split <;> omega
  unfold nb; omega
theorem nb_lt {b : Nat} (h : W32 b) : nb b < 4294967296 := by
  unfold nb bt
  unfold W32 at h
  split <;> omega
def hexB (n : Nat) : ByteArray := ⟨(hx n 8).toArray⟩
theorem hexB_size (n : Nat) : (hexB n).size = 8 := by simp [hexB, ByteArray.size, hx_len]
theorem rep_one (c : Nat) : Lib.repeatL [48] c = List.replicate c 48 := by
  induction c with
  | zero => rfl
  | succ c ih => simp [Lib.repeatL, List.replicate_succ] at ih ⊢; try exact ih
theorem hex_join (n j c : Nat) (h : n < 16 ^ j) (hc : j + c = 8) : ((⟨(Lib.repeatL [48] c).toArray⟩ : ByteArray) ++ ⟨(hx n j).toArray⟩) = hexB n := by
  have e : Lib.repeatL [48] c = List.replicate c 48 := rep_one c
  rw [e, hexB, ← hc, hx_pad n j h c]
  apply ByteArray.ext
  simp
def tab6 : ByteArray := ⟨#[48, 49, 50, 51, 52, 53, 54, 55, 56, 57, 97, 98, 99, 100, 101, 102]⟩
theorem tab6_at : ∀ d : Fin 16, (tab6[d.1]'(by have := d.2; show d.1 < 16; omega)).toNat = hd d.1 := by decide +kernel
theorem and15_i {m : Nat} (h : m < 4294967296) : bits .and .i64 (m : Int) 15 = ((m % 16 : Nat) : Int) := by
  have h := (bits_nat .i64 33 (by decide) (fun n h0 h1 => by rw [IntKind.wrap_i64]; omega) m 15 (by omega) (by decide)).1
  have h2 : m &&& 15 = m % 16 := by
    rw [show (15 : Nat) = 2 ^ 4 - 1 by decide, Nat.and_two_pow_sub_one_eq_mod]
  rw [← h2]; exact h

theorem impl_hexOf (w : World) (b : Nat) (hb : W32 b) (ht : TzC w) : Calls Tryd.prog 47 #[.float .f32 b] w (fun e w' => e = .returned (.string (hexB (nb b))) ∧ Below w.heap.size w w') := by
  have HT := Lib.hid ht
  have HB := Lib.hid (impl_BitsOf b hb)
  have hn := nb_lt hb
  rw [nb_bt b] at HB
  generalize nb b = n at *
  have HF := Lib.hid (fun w h => format_16 w n hn h)
  clear ht hn hb
  go_enter Tryd.func47, Tryd.ntmps47
  go_wp2_with fail
  refine (HB.out _).mono ?_
  rintro e w1 ⟨rfl, k, hw⟩
  have B1 : Hid (Below w.heap.size w w1) := Lib.hid (by rw [hw]; exact below_dn4 (Below.refl _ _) k)
  clear hw
  go_wp2_with fail
  refine (HF.out _ (HT.out.later B1.out)).mono ?_
  rintro e w2 ⟨j, rfl, h1, h8, hj, hb⟩
  have B2 := Lib.hid (B1.out.trans (hb.mono B1.out.size))
  obtain ⟨c, hc⟩ : ∃ c, j + c = 8 := ⟨8 - j, by omega⟩
  have HJ := Lib.hid (hex_join n j c hj hc)
  have hsz : (⟨(hx n j).toArray⟩ : ByteArray).size = j := by simp [ByteArray.size, hx_len]
  have HR := Lib.hid (fun w => Tryd.strings_Repeat ⟨#[48]⟩ c w (by omega) (by show 1 * c ≤ _; omega))
  have hci : (8 : Int) - (j : Int) = (c : Int) := by omega
  have hj8 : (j : Int) ≤ 8 := by omega
  have hc8 : (c : Int) ≤ 8 := by omega
  clear hb B1 h1 h8 hj hc HF
  generalize (⟨(hx n j).toArray⟩ : ByteArray) = t at *
  go_wp2_with fail
  refine (HR.out _).mono ?_
  rintro e w3 ⟨rfl, hb⟩
  have B3 := Lib.hid (B2.out.trans (hb.mono B2.out.size))
  have hsz2 : (⟨(Lib.repeatL [48] c).toArray⟩ : ByteArray).size = c := by rw [rep_one]; simp [ByteArray.size]
  clear hb B2 HR
  have HJ' : Hid (((⟨(Lib.repeatL [48] c).toArray⟩ : ByteArray) ++ t) = hexB n) := HJ
  change Hid _ at HJ'
  generalize (⟨(Lib.repeatL [48] c).toArray⟩ : ByteArray) = r at *
  go_wp2
  go_ret
  exact ⟨by rw [← HJ'.out]; first | done | rfl, B3.out⟩

theorem infoB : (Tryd.prog.info? 5).map (fun i => (i.zero, i.size, i.bytes)) = some (some (.int .u8 0), 1, 1) := by kernel_rfl
theorem hx8_len (n : Nat) : (hx n 8).length = 8 := hx_len n 8
set_option maxRecDepth 20000 in
set_option maxHeartbeats 1600000 in
theorem spec_l01Hex (w : World) (b : Nat) (hb : W32 b) : Calls Tryd.prog 68 #[.float .f32 b] w (fun e w' => e = .returned (.string (hexB (nb b))) ∧ Below w.heap.size w w') := by
  obtain ⟨iB, hi, hz0, hz1, hz2⟩ := info_parts infoB
  have HB := Lib.hid (spec_l01Bits b hb)
  have hn := nb_lt hb
  rw [nb_bt b] at HB
  generalize nb b = n at *
  have hni : (n : Int) < 4294967296 := by omega
  have HN := Lib.hid hn
  clear hb hn
  go_enter Tryd.func68, Tryd.ntmps68
  go_wp2_with fail
  refine (HB.out _).mono ?_
  rintro e w1 ⟨rfl, k0, hw⟩
  have B1 : Hid (Below w.heap.size w w1) := Lib.hid (by rw [hw]; exact below_dn4 (Below.refl _ _) k0)
  clear hw HB
  have hs1 := B1.out.size
  go_wp2_with fail
  go_loopw [4, 5] (fun o k wr => ∃ i g c : Nat, i ≤ 8 ∧ o = .slice (some ⟨g, 0, none⟩) i c ∧ k = .int .i64 (28 - 4 * (i : Int)) ∧ OwnX u8v 5 wr w.heap.size o ((hx n 8).take i) ∧ Below w.heap.size w wr) (fun o _ _ => 9 - lenS o)
  case atStart => exact ⟨0, _, _, by omega, rfl, rfl, World.ownsRow_made _ _ 0 hs1 (by unfold maxLen; omega) rfl, B1.out.alloc hs1 _⟩
  clear B1 hs1
  case round =>
    obtain ⟨i, g, c, hi8, rfl, rfl, ho, hb⟩ := hrel
    have HBL := Lib.hid hb; have HO := Lib.hid ho
    have hsz := hb.size
    clear hb ho
    rcases (by omega : i = 0 ∨ i = 1 ∨ i = 2 ∨ i = 3 ∨ i = 4 ∨ i = 5 ∨ i = 6 ∨ i = 7 ∨ i = 8) with rfl | rfl | rfl | rfl | rfl | rfl | rfl | rfl | rfl
    · have ha : bits .and .i64 ((n : Int) / 268435456) 15 = ((n / 16 ^ 7 % 16 : Nat) : Int) := by
        have h := and15_i (m := n / 16 ^ 7) (Nat.lt_of_le_of_lt (Nat.div_le_self _ _) HN.out)
        have e : ((n / 16 ^ 7 : Nat) : Int) = (n : Int) / 268435456 := by
          have : (16 : Nat) ^ 7 = 268435456 := by decide
          rw [this]; omega
        rw [e] at h
        exact h
      have hdm : n / 16 ^ 7 % 16 < 16 := Nat.mod_lt _ (by decide)
      have HTK : Hid ((hx n 8).take (0 + 1) = (hx n 8).take 0 ++ [hB (n / 16 ^ 7 % 16)]) := Lib.hid rfl
      generalize n / 16 ^ 7 % 16 = d at *
      have hds : Hid (d < tab6.size) := Lib.hid hdm
      have htd : (tab6[d]'hds.out).toNat = hd d := tab6_at ⟨d, hdm⟩
      rw [← hB_nat hdm] at htd
      obtain ⟨b8, hb8⟩ : ∃ b8, tab6[d]'hds.out = b8 := ⟨_, rfl⟩
      rw [hb8] at htd
      have heb : b8 = hB d := UInt8.toNat_inj.1 htd
      unfold tab6 at hb8
      have hd16 : ((d : Int) < 16) = True := by simp; omega
      rw [heb] at hb8
      clear htd heb hdm
      generalize hB d = x8 at *
      go_wp2_with (at_builtin; refine wpList_append_own_at _ rfl (.tmp 13) (.tmp 20) 69 rfl w.heap.size 5 iB (.int .u8 0) 1 1 Tryd.underlying69 hi hz0 hz1 hz2 rfl (by decide) (.slice (some ⟨g, 0, none⟩) 0 c) 0 (((hx n 8).take 0).map u8v) rfl (World.ownsRow.alloc HO.out _) ⟨wr.heap.size, 0, none⟩ 1 1 [u8v x8] rfl rfl (news4 wr _ _) (fun u hu => by simp at hu; subst hu; rfl) (by unfold maxLen; omega) (by omega) (by simp; omega) ?_)
      intro v3 w3 ho hg hnil hat
      obtain ⟨g1, c1, rfl, hown⟩ := own_push2 (done := (hx n 8).take 0) (by rfl) ho
      rw [← HTK.out] at hown
      have HO3 := Lib.hid hown
      have HB3 := Lib.hid (push_below HBL.out HO.out hg)
      clear ho hg hnil hat hown HO HBL
      go_wp2
      go_roundw
      case rel => exact ⟨1, g1, c1, by omega, rfl, by rfl, HO3.out, HB3.out⟩
      case measure => simp [lenS]
    · have ha : bits .and .i64 ((n : Int) / 16777216) 15 = ((n / 16 ^ 6 % 16 : Nat) : Int) := by
        have h := and15_i (m := n / 16 ^ 6) (Nat.lt_of_le_of_lt (Nat.div_le_self _ _) HN.out)
        have e : ((n / 16 ^ 6 : Nat) : Int) = (n : Int) / 16777216 := by
          have : (16 : Nat) ^ 6 = 16777216 := by decide
          rw [this]; omega
        rw [e] at h
        exact h
      have hdm : n / 16 ^ 6 % 16 < 16 := Nat.mod_lt _ (by decide)
      have HTK : Hid ((hx n 8).take (1 + 1) = (hx n 8).take 1 ++ [hB (n / 16 ^ 6 % 16)]) := Lib.hid rfl
      generalize n / 16 ^ 6 % 16 = d at *
      have hds : Hid (d < tab6.size) := Lib.hid hdm
      have htd : (tab6[d]'hds.out).toNat = hd d := tab6_at ⟨d, hdm⟩
      rw [← hB_nat hdm] at htd
      obtain ⟨b8, hb8⟩ : ∃ b8, tab6[d]'hds.out = b8 := ⟨_, rfl⟩
      rw [hb8] at htd
      have heb : b8 = hB d := UInt8.toNat_inj.1 htd
      unfold tab6 at hb8
      have hd16 : ((d : Int) < 16) = True := by simp; omega
      rw [heb] at hb8
      clear htd heb hdm
      generalize hB d = x8 at *
      go_wp2_with (at_builtin; refine wpList_append_own_at _ rfl (.tmp 13) (.tmp 20) 69 rfl w.heap.size 5 iB (.int .u8 0) 1 1 Tryd.underlying69 hi hz0 hz1 hz2 rfl (by decide) (.slice (some ⟨g, 0, none⟩) 1 c) 1 (((hx n 8).take 1).map u8v) rfl (World.ownsRow.alloc HO.out _) ⟨wr.heap.size, 0, none⟩ 1 1 [u8v x8] rfl rfl (news4 wr _ _) (fun u hu => by simp at hu; subst hu; rfl) (by unfold maxLen; omega) (by omega) (by simp; omega) ?_)
      intro v3 w3 ho hg hnil hat
      obtain ⟨g1, c1, rfl, hown⟩ := own_push2 (done := (hx n 8).take 1) (by rfl) ho
      rw [← HTK.out] at hown
      have HO3 := Lib.hid hown
      have HB3 := Lib.hid (push_below HBL.out HO.out hg)
      clear ho hg hnil hat hown HO HBL
      go_wp2
      go_roundw
      case rel => exact ⟨2, g1, c1, by omega, rfl, by rfl, HO3.out, HB3.out⟩
      case measure => simp [lenS]
    · have ha : bits .and .i64 ((n : Int) / 1048576) 15 = ((n / 16 ^ 5 % 16 : Nat) : Int) := by
        have h := and15_i (m := n / 16 ^ 5) (Nat.lt_of_le_of_lt (Nat.div_le_self _ _) HN.out)
        have e : ((n / 16 ^ 5 : Nat) : Int) = (n : Int) / 1048576 := by
          have : (16 : Nat) ^ 5 = 1048576 := by decide
          rw [this]; omega
        rw [e] at h
        exact h
      have hdm : n / 16 ^ 5 % 16 < 16 := Nat.mod_lt _ (by decide)
      have HTK : Hid ((hx n 8).take (2 + 1) = (hx n 8).take 2 ++ [hB (n / 16 ^ 5 % 16)]) := Lib.hid rfl
      generalize n / 16 ^ 5 % 16 = d at *
      have hds : Hid (d < tab6.size) := Lib.hid hdm
      have htd : (tab6[d]'hds.out).toNat = hd d := tab6_at ⟨d, hdm⟩
      rw [← hB_nat hdm] at htd
      obtain ⟨b8, hb8⟩ : ∃ b8, tab6[d]'hds.out = b8 := ⟨_, rfl⟩
      rw [hb8] at htd
      have heb : b8 = hB d := UInt8.toNat_inj.1 htd
      unfold tab6 at hb8
      have hd16 : ((d : Int) < 16) = True := by simp; omega
      rw [heb] at hb8
      clear htd heb hdm
      generalize hB d = x8 at *
      go_wp2_with (at_builtin; refine wpList_append_own_at _ rfl (.tmp 13) (.tmp 20) 69 rfl w.heap.size 5 iB (.int .u8 0) 1 1 Tryd.underlying69 hi hz0 hz1 hz2 rfl (by decide) (.slice (some ⟨g, 0, none⟩) 2 c) 2 (((hx n 8).take 2).map u8v) rfl (World.ownsRow.alloc HO.out _) ⟨wr.heap.size, 0, none⟩ 1 1 [u8v x8] rfl rfl (news4 wr _ _) (fun u hu => by simp at hu; subst hu; rfl) (by unfold maxLen; omega) (by omega) (by simp; omega) ?_)
      intro v3 w3 ho hg hnil hat
      obtain ⟨g1, c1, rfl, hown⟩ := own_push2 (done := (hx n 8).take 2) (by rfl) ho
      rw [← HTK.out] at hown
      have HO3 := Lib.hid hown
      have HB3 := Lib.hid (push_below HBL.out HO.out hg)
      clear ho hg hnil hat hown HO HBL
      go_wp2
      go_roundw
      case rel => exact ⟨3, g1, c1, by omega, rfl, by rfl, HO3.out, HB3.out⟩
      case measure => simp [lenS]
    · have ha : bits .and .i64 ((n : Int) / 65536) 15 = ((n / 16 ^ 4 % 16 : Nat) : Int) := by
        have h := and15_i (m := n / 16 ^ 4) (Nat.lt_of_le_of_lt (Nat.div_le_self _ _) HN.out)
        have e : ((n / 16 ^ 4 : Nat) : Int) = (n : Int) / 65536 := by
          have : (16 : Nat) ^ 4 = 65536 := by decide
          rw [this]; omega
        rw [e] at h
        exact h
      have hdm : n / 16 ^ 4 % 16 < 16 := Nat.mod_lt _ (by decide)
      have HTK : Hid ((hx n 8).take (3 + 1) = (hx n 8).take 3 ++ [hB (n / 16 ^ 4 % 16)]) := Lib.hid rfl
      generalize n / 16 ^ 4 % 16 = d at *
      have hds : Hid (d < tab6.size) := Lib.hid hdm
      have htd : (tab6[d]'hds.out).toNat = hd d := tab6_at ⟨d, hdm⟩
      rw [← hB_nat hdm] at htd
      obtain ⟨b8, hb8⟩ : ∃ b8, tab6[d]'hds.out = b8 := ⟨_, rfl⟩
      rw [hb8] at htd
      have heb : b8 = hB d := UInt8.toNat_inj.1 htd
      unfold tab6 at hb8
      have hd16 : ((d : Int) < 16) = True := by simp; omega
      rw [heb] at hb8
      clear htd heb hdm
      generalize hB d = x8 at *
      go_wp2_with (at_builtin; refine wpList_append_own_at _ rfl (.tmp 13) (.tmp 20) 69 rfl w.heap.size 5 iB (.int .u8 0) 1 1 Tryd.underlying69 hi hz0 hz1 hz2 rfl (by decide) (.slice (some ⟨g, 0, none⟩) 3 c) 3 (((hx n 8).take 3).map u8v) rfl (World.ownsRow.alloc HO.out _) ⟨wr.heap.size, 0, none⟩ 1 1 [u8v x8] rfl rfl (news4 wr _ _) (fun u hu => by simp at hu; subst hu; rfl) (by unfold maxLen; omega) (by omega) (by simp; omega) ?_)
      intro v3 w3 ho hg hnil hat
      obtain ⟨g1, c1, rfl, hown⟩ := own_push2 (done := (hx n 8).take 3) (by rfl) ho
      rw [← HTK.out] at hown
      have HO3 := Lib.hid hown
      have HB3 := Lib.hid (push_below HBL.out HO.out hg)
      clear ho hg hnil hat hown HO HBL
      go_wp2
      go_roundw
      case rel => exact ⟨4, g1, c1, by omega, rfl, by rfl, HO3.out, HB3.out⟩
      case measure => simp [lenS]
    · have ha : bits .and .i64 ((n : Int) / 4096) 15 = ((n / 16 ^ 3 % 16 : Nat) : Int) := by
        have h := and15_i (m := n / 16 ^ 3) (Nat.lt_of_le_of_lt (Nat.div_le_self _ _) HN.out)
        have e : ((n / 16 ^ 3 : Nat) : Int) = (n : Int) / 4096 := by
          have : (16 : Nat) ^ 3 = 4096 := by decide
          rw [this]; omega
        rw [e] at h
        exact h
      have hdm : n / 16 ^ 3 % 16 < 16 := Nat.mod_lt _ (by decide)
      have HTK : Hid ((hx n 8).take (4 + 1) = (hx n 8).take 4 ++ [hB (n / 16 ^ 3 % 16)]) := Lib.hid rfl
      generalize n / 16 ^ 3 % 16 = d at *
      have hds : Hid (d < tab6.size) := Lib.hid hdm
      have htd : (tab6[d]'hds.out).toNat = hd d := tab6_at ⟨d, hdm⟩
      rw [← hB_nat hdm] at htd
      obtain ⟨b8, hb8⟩ : ∃ b8, tab6[d]'hds.out = b8 := ⟨_, rfl⟩
      rw [hb8] at htd
      have heb : b8 = hB d := UInt8.toNat_inj.1 htd
      unfold tab6 at hb8
      have hd16 : ((d : Int) < 16) = True := by simp; omega
      rw [heb] at hb8
      clear htd heb hdm
      generalize hB d = x8 at *
      go_wp2_with (at_builtin; refine wpList_append_own_at _ rfl (.tmp 13) (.tmp 20) 69 rfl w.heap.size 5 iB (.int .u8 0) 1 1 Tryd.underlying69 hi hz0 hz1 hz2 rfl (by decide) (.slice (some ⟨g, 0, none⟩) 4 c) 4 (((hx n 8).take 4).map u8v) rfl (World.ownsRow.alloc HO.out _) ⟨wr.heap.size, 0, none⟩ 1 1 [u8v x8] rfl rfl (news4 wr _ _) (fun u hu => by simp at hu; subst hu; rfl) (by unfold maxLen; omega) (by omega) (by simp; omega) ?_)
      intro v3 w3 ho hg hnil hat
      obtain ⟨g1, c1, rfl, hown⟩ := own_push2 (done := (hx n 8).take 4) (by rfl) ho
      rw [← HTK.out] at hown
      have HO3 := Lib.hid hown
      have HB3 := Lib.hid (push_below HBL.out HO.out hg)
      clear ho hg hnil hat hown HO HBL
      go_wp2
      go_roundw
      case rel => exact ⟨5, g1, c1, by omega, rfl, by rfl, HO3.out, HB3.out⟩
      case measure => simp [lenS]
    · have ha : bits .and .i64 ((n : Int) / 256) 15 = ((n / 16 ^ 2 % 16 : Nat) : Int) := by
        have h := and15_i (m := n / 16 ^ 2) (Nat.lt_of_le_of_lt (Nat.div_le_self _ _) HN.out)
        have e : ((n / 16 ^ 2 : Nat) : Int) = (n : Int) / 256 := by
          have : (16 : Nat) ^ 2 = 256 := by decide
          rw [this]; omega
        rw [e] at h
        exact h
      have hdm : n / 16 ^ 2 % 16 < 16 := Nat.mod_lt _ (by decide)
      have HTK : Hid ((hx n 8).take (5 + 1) = (hx n 8).take 5 ++ [hB (n / 16 ^ 2 % 16)]) := Lib.hid rfl
      generalize n / 16 ^ 2 % 16 = d at *
      have hds : Hid (d < tab6.size) := Lib.hid hdm
      have htd : (tab6[d]'hds.out).toNat = hd d := tab6_at ⟨d, hdm⟩
      rw [← hB_nat hdm] at htd
      obtain ⟨b8, hb8⟩ : ∃ b8, tab6[d]'hds.out = b8 := ⟨_, rfl⟩
      rw [hb8] at htd
      have heb : b8 = hB d := UInt8.toNat_inj.1 htd
      unfold tab6 at hb8
      have hd16 : ((d : Int) < 16) = True := by simp; omega
      rw [heb] at hb8
      clear htd heb hdm
      generalize hB d = x8 at *
      go_wp2_with (at_builtin; refine wpList_append_own_at _ rfl (.tmp 13) (.tmp 20) 69 rfl w.heap.size 5 iB (.int .u8 0) 1 1 Tryd.underlying69 hi hz0 hz1 hz2 rfl (by decide) (.slice (some ⟨g, 0, none⟩) 5 c) 5 (((hx n 8).take 5).map u8v) rfl (World.ownsRow.alloc HO.out _) ⟨wr.heap.size, 0, none⟩ 1 1 [u8v x8] rfl rfl (news4 wr _ _) (fun u hu => by simp at hu; subst hu; rfl) (by unfold maxLen; omega) (by omega) (by simp; omega) ?_)
      intro v3 w3 ho hg hnil hat
      obtain ⟨g1, c1, rfl, hown⟩ := own_push2 (done := (hx n 8).take 5) (by rfl) ho
      rw [← HTK.out] at hown
      have HO3 := Lib.hid hown
      have HB3 := Lib.hid (push_below HBL.out HO.out hg)
      clear ho hg hnil hat hown HO HBL
      go_wp2
      go_roundw
      case rel => exact ⟨6, g1, c1, by omega, rfl, by rfl, HO3.out, HB3.out⟩
      case measure => simp [lenS]
    · have ha : bits .and .i64 ((n : Int) / 16) 15 = ((n / 16 ^ 1 % 16 : Nat) : Int) := by
        have h := and15_i (m := n / 16 ^ 1) (Nat.lt_of_le_of_lt (Nat.div_le_self _ _) HN.out)
        have e : ((n / 16 ^ 1 : Nat) : Int) = (n : Int) / 16 := by
          have : (16 : Nat) ^ 1 = 16 := by decide
          rw [this]; omega
        rw [e] at h
        exact h
      have hdm : n / 16 ^ 1 % 16 < 16 := Nat.mod_lt _ (by decide)
      have HTK : Hid ((hx n 8).take (6 + 1) = (hx n 8).take 6 ++ [hB (n / 16 ^ 1 % 16)]) := Lib.hid rfl
      generalize n / 16 ^ 1 % 16 = d at *
      have hds : Hid (d < tab6.size) := Lib.hid hdm
      have htd : (tab6[d]'hds.out).toNat = hd d := tab6_at ⟨d, hdm⟩
      rw [← hB_nat hdm] at htd
      obtain ⟨b8, hb8⟩ : ∃ b8, tab6[d]'hds.out = b8 := ⟨_, rfl⟩
      rw [hb8] at htd
      have heb : b8 = hB d := UInt8.toNat_inj.1 htd
      unfold tab6 at hb8
      have hd16 : ((d : Int) < 16) = True := by simp; omega
      rw [heb] at hb8
      clear htd heb hdm
      generalize hB d = x8 at *
      go_wp2_with (at_builtin; refine wpList_append_own_at _ rfl (.tmp 13) (.tmp 20) 69 rfl w.heap.size 5 iB (.int .u8 0) 1 1 Tryd.underlying69 hi hz0 hz1 hz2 rfl (by decide) (.slice (some ⟨g, 0, none⟩) 6 c) 6 (((hx n 8).take 6).map u8v) rfl (World.ownsRow.alloc HO.out _) ⟨wr.heap.size, 0, none⟩ 1 1 [u8v x8] rfl rfl (news4 wr _ _) (fun u hu => by simp at hu; subst hu; rfl) (by unfold maxLen; omega) (by omega) (by simp; omega) ?_)
      intro v3 w3 ho hg hnil hat
      obtain ⟨g1, c1, rfl, hown⟩ := own_push2 (done := (hx n 8).take 6) (by rfl) ho
      rw [← HTK.out] at hown
      have HO3 := Lib.hid hown
      have HB3 := Lib.hid (push_below HBL.out HO.out hg)
      clear ho hg hnil hat hown HO HBL
      go_wp2
      go_roundw
      case rel => exact ⟨7, g1, c1, by omega, rfl, by rfl, HO3.out, HB3.out⟩
      case measure => simp [lenS]
    · have ha : bits .and .i64 ((n : Int)) 15 = ((n / 16 ^ 0 % 16 : Nat) : Int) := by
        have h := and15_i (m := n / 16 ^ 0) (Nat.lt_of_le_of_lt (Nat.div_le_self _ _) HN.out)
        have e : ((n / 16 ^ 0 : Nat) : Int) = (n : Int) := by
          have : (16 : Nat) ^ 0 = 1 := by decide
          rw [this]; omega
        rw [e] at h
        exact h
      have hdm : n / 16 ^ 0 % 16 < 16 := Nat.mod_lt _ (by decide)
      have HTK : Hid ((hx n 8).take (7 + 1) = (hx n 8).take 7 ++ [hB (n / 16 ^ 0 % 16)]) := Lib.hid rfl
      generalize n / 16 ^ 0 % 16 = d at *
      have hds : Hid (d < tab6.size) := Lib.hid hdm
      have htd : (tab6[d]'hds.out).toNat = hd d := tab6_at ⟨d, hdm⟩
      rw [← hB_nat hdm] at htd
      obtain ⟨b8, hb8⟩ : ∃ b8, tab6[d]'hds.out = b8 := ⟨_, rfl⟩
      rw [hb8] at htd
      have heb : b8 = hB d := UInt8.toNat_inj.1 htd
      unfold tab6 at hb8
      have hd16 : ((d : Int) < 16) = True := by simp; omega
      rw [heb] at hb8
      clear htd heb hdm
      generalize hB d = x8 at *
      go_wp2_with (at_builtin; refine wpList_append_own_at _ rfl (.tmp 13) (.tmp 20) 69 rfl w.heap.size 5 iB (.int .u8 0) 1 1 Tryd.underlying69 hi hz0 hz1 hz2 rfl (by decide) (.slice (some ⟨g, 0, none⟩) 7 c) 7 (((hx n 8).take 7).map u8v) rfl (World.ownsRow.alloc HO.out _) ⟨wr.heap.size, 0, none⟩ 1 1 [u8v x8] rfl rfl (news4 wr _ _) (fun u hu => by simp at hu; subst hu; rfl) (by unfold maxLen; omega) (by omega) (by simp; omega) ?_)
      intro v3 w3 ho hg hnil hat
      obtain ⟨g1, c1, rfl, hown⟩ := own_push2 (done := (hx n 8).take 7) (by rfl) ho
      rw [← HTK.out] at hown
      have HO3 := Lib.hid hown
      have HB3 := Lib.hid (push_below HBL.out HO.out hg)
      clear ho hg hnil hat hown HO HBL
      go_wp2
      go_roundw
      case rel => exact ⟨8, g1, c1, by omega, rfl, by rfl, HO3.out, HB3.out⟩
      case measure => simp [lenS]
    · have hcv : ∀ dst, Tryd.prog.underlying dst = some .string → (convert 69 dst (.slice (some ⟨g, 0, none⟩) 8 c)).run Tryd.prog wr = .ok (.string (hexB n)) wr := by
        have := run_convert_bytes_arg (P := Tryd.prog) wr 69 5 Tryd.underlying69 Tryd.underlying5 g 0 8 c ((hx n 8).map fun c : UInt8 => (c.toNat : Int)) (by simp [hx_len]) (fun i hi => by
          rw [Nat.zero_add, World.ownsRow.cellAt HO.out i (by omega)]
          have e : (hx n 8).take 8 = hx n 8 := List.take_of_length_le (by rw [hx_len]; exact Nat.le_refl _)
          rw [e]
          simp [List.getD, hx_len, hi])
        rw [str_ints] at this
        exact this
      go_wp2
      go_ret
      exact ⟨rfl, HBL.out⟩

end Go.Proofs.YtcaceplnlfmejaaDoor
