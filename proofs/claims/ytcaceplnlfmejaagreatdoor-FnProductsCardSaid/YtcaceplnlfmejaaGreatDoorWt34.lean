/- The library's ParseUint at base 16 and 32 bits. -/
import Derived.Test.YtcaceplnlfmejaaGreatDoorWt33
namespace Go.Proofs.YtcaceplnlfmejaaGreatDoor
open Fl Go.RowKit

/-- What is known of the reader's answer. -/
def PU (s : ByteArray) (w : World) (e : Ending) (w' : World) : Prop := ∃ v err, e = .returned (.tuple #[.int .u64 v, err]) ∧ (0 ≤ v ∧ v ≤ 4294967295) ∧ (err = .nilIface ∨ err = .iface 132 (.int .i64 2) ∨ err = .iface 132 (.int .i64 1)) ∧ (∀ m, m < 4294967296 → s = hexB m → err = .nilIface ∧ v = m) ∧ Below w.heap.size w w'
theorem PU.syn {s : ByteArray} {w w' : World} (h : ∀ m, m < 4294967296 → s ≠ hexB m) (hb : Below w.heap.size w w') : PU s w (.returned (.tuple #[.int .u64 0, .iface 132 (.int .i64 2)])) w' :=
  ⟨_, _, rfl, ⟨by omega, by omega⟩, .inr (.inl rfl), fun m hm hs => absurd hs (h m hm), hb⟩
theorem PU.rng {s : ByteArray} {w w' : World} (h : ∀ m, m < 4294967296 → s ≠ hexB m) (hb : Below w.heap.size w w') : PU s w (.returned (.tuple #[.int .u64 4294967295, .iface 132 (.int .i64 1)])) w' :=
  ⟨_, _, rfl, ⟨by omega, by omega⟩, .inr (.inr rfl), fun m hm hs => absurd hs (h m hm), hb⟩
theorem PU.fin {s : ByteArray} {w w' : World} {a : Int} (h0 : 0 ≤ a) (h1 : a ≤ 4294967295) (h : ∀ m : Nat, m < 4294967296 → s = hexB m → a = m) (hb : Below w.heap.size w w') : PU s w (.returned (.tuple #[.int .u64 a, .nilIface])) w' :=
  ⟨_, _, rfl, ⟨h0, h1⟩, .inl rfl, fun m hm hs => ⟨rfl, h m hm hs⟩, hb⟩

theorem lower_call (c : Int) (w : World) : Calls Tryz.prog 112 #[.int .u8 c] w (fun e w' => e = .returned (.int .u8 (bits .or .u8 c 32)) ∧ w' = w) := by
  go_enter Tryz.func112, Tryz.ntmps112
  go_wp2
  go_ret
  exact ⟨rfl, rfl⟩

set_option maxRecDepth 20000 in
set_option maxHeartbeats 1600000 in
theorem parseUint_16 (s : ByteArray) (w : World) (hs : s.size ≤ 1048576) : Calls Tryz.prog 96 #[.string s, .int .i64 16, .int .i64 32] w (PU s w) := by
  have hsi : (s.size : Int) ≤ 1048576 := by omega
  by_cases hemp : s.toList.isEmpty = true
  · have HE : Hid (∀ m, m < 4294967296 → s ≠ hexB m) := Lib.hid (by
      intro m _ hm
      have := hexB_size m
      rw [← hm] at this
      rw [Lib.toList_data] at hemp
      have e : s.data.toList.length = s.size := by simp
      rw [List.isEmpty_iff.1 hemp] at e
      simp at e
      omega)
    go_enter Tryz.func96, Tryz.ntmps96
    go_wp2
    go_ret2
    exact PU.syn HE.out (Below.refl _ _)
  have hemp2 : s.toList.isEmpty = false := by simpa using hemp
  clear hemp
  have hcv := Lib.run_convert_string_bytes (P := Tryz.prog) w 9 22 5 s (u := .string) Tryz.underlying9 Tryz.underlying22 Tryz.underlying5
  have hB : Hid (∀ j b, s.data.toList[j]? = some b → (Lib.bytesWorld w 5 s).cell? ⟨w.heap.size, j, none⟩ = some (.int .u8 (b.toNat : Int))) := Lib.hid (fun j b hj => by
    have hlt : j < s.size := by have := (List.getElem?_eq_some_iff.1 hj).1; simpa using this
    rw [Lib.bytesWorld_cell w 5 s j hlt]
    simp [List.getD, hj])
  have HB : Hid (Below w.heap.size w (Lib.bytesWorld w 5 s)) := Lib.hid (Lib.bytesWorld_below w 5 s)
  obtain ⟨W1, hW1⟩ : ∃ W1, W1 = Lib.bytesWorld w 5 s := ⟨_, rfl⟩
  rw [← hW1] at hcv hB HB
  clear hW1
  have hmv : IntKind.u64.wrap (IntKind.u64.wrap 4294967296 - 1) = 4294967295 := by decide
  have HG0 := Lib.hid (Gx_start s)
  go_enter Tryz.func96, Tryz.ntmps96
  go_wp2_with fail
  go_loop [12, 13, 101] (fun vu vn vi => ∃ (k n : Nat) (a : Int), vu = .bool false ∧ vn = .int .u64 a ∧ vi = .int .i64 k ∧ k ≤ s.size ∧ Hid (a = (n : Int) ∧ n ≤ 4294967295 ∧ Gx s n k)) (fun _ _ vi => s.size - (RowKit.intOf vi).toNat)
  case atStart => exact ⟨0, 0, 0, rfl, rfl, rfl, by omega, Lib.hid ⟨rfl, by omega, HG0.out⟩⟩
  case round =>
    obtain ⟨k, n, a, rfl, rfl, rfl, hk, HN⟩ := hrel
    have a0 : 0 ≤ a := by have := HN.out.1; omega
    have a1 : a ≤ 4294967295 := by have := HN.out; omega
    by_cases hlt : k < s.size
    · obtain ⟨b, hb⟩ : ∃ b, s.data.toList[k]? = some b := ⟨_, List.getElem?_eq_getElem (by simpa using hlt)⟩
      have hc := hB.out k b hb
      have HX := Lib.hid hb
      obtain ⟨c, hce⟩ : ∃ c : Int, (b.toNat : Int) = c := ⟨_, rfl⟩
      have c0 : 0 ≤ c := by omega
      have c1 : c ≤ 255 := by have := b.toNat_lt; omega
      rw [hce] at hc
      have HCE := Lib.hid hce
      clear hb hce
      by_cases hdg : 48 ≤ c ∧ c ≤ 57
      · obtain ⟨d0, d1⟩ := hdg
        obtain ⟨d, hd⟩ : ∃ d, b.toNat - 48 = d := ⟨_, rfl⟩
        have HDV : Hid (∀ e, hval b = some e → d = e) := Lib.hid (by rw [← hd]; have h := HCE.out; exact hval_dec (by omega) (by omega))
        have HDN : Hid (c - 48 = (d : Int)) := Lib.hid (by have h := HCE.out; omega)
        have h95 : (c == 95) = false := by simp; omega
        clear hd
        by_cases hbig : 4294967295 < a * 16 + (c - 48)
        · have HZ : Hid (∀ m, m < 4294967296 → s ≠ hexB m) := Lib.hid (Gx_big HN.out.2.2 HX.out HDV.out (by have := HN.out.1; have := HDN.out; omega))
          clear HN
          go_wp2
          go_ret2
          exact PU.rng HZ.out HB.out
        · have hsm : a * 16 + (c - 48) ≤ 4294967295 := by omega
          have HN2 : Hid (a * 16 + (c - 48) = ((16 * n + d : Nat) : Int) ∧ 16 * n + d ≤ 4294967295 ∧ Gx s (16 * n + d) (k + 1)) := Lib.hid (by
            have h1 := HN.out.1; have h2 := HDN.out
            exact ⟨by omega, by omega, Gx_step HN.out.2.2 HX.out HDV.out⟩)
          clear HN hbig
          go_wp2
          go_round
          case rel => exact ⟨k + 1, 16 * n + d, _, rfl, rfl, by go_num, by omega, HN2⟩
          case measure => simp [RowKit.intOf]; omega
      · obtain ⟨L, hL⟩ : ∃ L, bits .or .u8 c 32 = L := ⟨_, rfl⟩
        have HLW : Hid (∀ e, hval b = some e → 97 ≤ L ∧ L ≤ 122 ∧ (L - 87).toNat = e ∧ (L - 87).toNat < 16) := Lib.hid (by
          have h := HCE.out
          exact hval_low (by rw [h, hL]) (by omega))
        have hlf := low_fact ⟨b.toNat, b.toNat_lt⟩
        simp only at hlf
        rw [HCE.out, hL] at hlf
        have L0 : 0 ≤ L := hlf.1
        have L1 : L ≤ 255 := hlf.2.1
        clear hlf
        have hcd : (48 ≤ c && c ≤ 57) = false := by simp; omega
        by_cases h95 : c = 95
        · subst h95
          have HZ : Hid (∀ m, m < 4294967296 → s ≠ hexB m) := Lib.hid (Gx_bad HX.out (by
            cases hv : hval b with
            | none => rfl
            | some e =>
              have := HLW.out e hv
              have h127 : bits .or .u8 95 32 = 127 := by decide
              omega))
          have h127 : bits .or .u8 95 32 = 127 := by decide
          clear hL hdg hcd
          go_wp2_with (go_at_call 112; refine (lower_call _ _).mono ?_; rintro e w' ⟨rfl, rfl⟩)
          go_ret2
          exact PU.syn HZ.out HB.out
        have h95' : (c == 95) = false := by simp; exact h95
        rcases (by omega : c < 48 ∨ 57 < c) with hcc | hcc
        · clear hdg hcd
          by_cases l0 : 97 ≤ L
          · by_cases l1 : L ≤ 122
            · by_cases l2 : L ≤ 102
              · obtain ⟨d, hd⟩ : ∃ d, (L - 87).toNat = d := ⟨_, rfl⟩
                have HDV : Hid (∀ e, hval b = some e → d = e) := Lib.hid (fun e he => by rw [← hd]; exact (HLW.out e he).2.2.1)
                have HDN : Hid (L - 97 + 10 = (d : Int)) := Lib.hid (by omega)
                clear hd
                by_cases hbig : 4294967295 < a * 16 + (L - 97 + 10)
                · have HZ : Hid (∀ m, m < 4294967296 → s ≠ hexB m) := Lib.hid (Gx_big HN.out.2.2 HX.out HDV.out (by have := HN.out.1; have := HDN.out; omega))
                  clear HN
                  go_wp2_with (go_at_call 112; refine (lower_call _ _).mono ?_; rintro e w' ⟨rfl, rfl⟩)
                  go_ret2
                  exact PU.rng HZ.out HB.out
                · have hsm : a * 16 + (L - 97 + 10) ≤ 4294967295 := by omega
                  have HN2 : Hid (a * 16 + (L - 97 + 10) = ((16 * n + d : Nat) : Int) ∧ 16 * n + d ≤ 4294967295 ∧ Gx s (16 * n + d) (k + 1)) := Lib.hid (by
                    have h1 := HN.out.1; have h2 := HDN.out
                    exact ⟨by omega, by omega, Gx_step HN.out.2.2 HX.out HDV.out⟩)
                  clear HN hbig
                  go_wp2_with (go_at_call 112; refine (lower_call _ _).mono ?_; rintro e w' ⟨rfl, rfl⟩)
                  go_round
                  case rel => exact ⟨k + 1, 16 * n + d, _, rfl, rfl, by go_num, by omega, HN2⟩
                  case measure => simp [RowKit.intOf]; omega
              · have HZ : Hid (∀ m, m < 4294967296 → s ≠ hexB m) := Lib.hid (Gx_bad HX.out (by
                  cases hv : hval b with
                  | none => rfl
                  | some e => have := HLW.out e hv; omega))
                clear HN
                go_wp2_with (go_at_call 112; refine (lower_call _ _).mono ?_; rintro e w' ⟨rfl, rfl⟩)
                go_ret2
                exact PU.syn HZ.out HB.out
            · have HZ : Hid (∀ m, m < 4294967296 → s ≠ hexB m) := Lib.hid (Gx_bad HX.out (by
                cases hv : hval b with
                | none => rfl
                | some e => have := HLW.out e hv; omega))
              clear HN
              go_wp2_with (go_at_call 112; refine (lower_call _ _).mono ?_; rintro e w' ⟨rfl, rfl⟩)
              go_ret2
              exact PU.syn HZ.out HB.out
          · have HZ : Hid (∀ m, m < 4294967296 → s ≠ hexB m) := Lib.hid (Gx_bad HX.out (by
              cases hv : hval b with
              | none => rfl
              | some e => have := HLW.out e hv; omega))
            clear HN
            go_wp2_with (go_at_call 112; refine (lower_call _ _).mono ?_; rintro e w' ⟨rfl, rfl⟩)
            go_ret2
            exact PU.syn HZ.out HB.out
        · clear hdg hcd
          by_cases l0 : 97 ≤ L
          · by_cases l1 : L ≤ 122
            · by_cases l2 : L ≤ 102
              · obtain ⟨d, hd⟩ : ∃ d, (L - 87).toNat = d := ⟨_, rfl⟩
                have HDV : Hid (∀ e, hval b = some e → d = e) := Lib.hid (fun e he => by rw [← hd]; exact (HLW.out e he).2.2.1)
                have HDN : Hid (L - 97 + 10 = (d : Int)) := Lib.hid (by omega)
                clear hd
                by_cases hbig : 4294967295 < a * 16 + (L - 97 + 10)
                · have HZ : Hid (∀ m, m < 4294967296 → s ≠ hexB m) := Lib.hid (Gx_big HN.out.2.2 HX.out HDV.out (by have := HN.out.1; have := HDN.out; omega))
                  clear HN
                  go_wp2_with (go_at_call 112; refine (lower_call _ _).mono ?_; rintro e w' ⟨rfl, rfl⟩)
                  go_ret2
                  exact PU.rng HZ.out HB.out
                · have hsm : a * 16 + (L - 97 + 10) ≤ 4294967295 := by omega
                  have HN2 : Hid (a * 16 + (L - 97 + 10) = ((16 * n + d : Nat) : Int) ∧ 16 * n + d ≤ 4294967295 ∧ Gx s (16 * n + d) (k + 1)) := Lib.hid (by
                    have h1 := HN.out.1; have h2 := HDN.out
                    exact ⟨by omega, by omega, Gx_step HN.out.2.2 HX.out HDV.out⟩)
                  clear HN hbig
                  go_wp2_with (go_at_call 112; refine (lower_call _ _).mono ?_; rintro e w' ⟨rfl, rfl⟩)
                  go_round
                  case rel => exact ⟨k + 1, 16 * n + d, _, rfl, rfl, by go_num, by omega, HN2⟩
                  case measure => simp [RowKit.intOf]; omega
              · have HZ : Hid (∀ m, m < 4294967296 → s ≠ hexB m) := Lib.hid (Gx_bad HX.out (by
                  cases hv : hval b with
                  | none => rfl
                  | some e => have := HLW.out e hv; omega))
                clear HN
                go_wp2_with (go_at_call 112; refine (lower_call _ _).mono ?_; rintro e w' ⟨rfl, rfl⟩)
                go_ret2
                exact PU.syn HZ.out HB.out
            · have HZ : Hid (∀ m, m < 4294967296 → s ≠ hexB m) := Lib.hid (Gx_bad HX.out (by
                cases hv : hval b with
                | none => rfl
                | some e => have := HLW.out e hv; omega))
              clear HN
              go_wp2_with (go_at_call 112; refine (lower_call _ _).mono ?_; rintro e w' ⟨rfl, rfl⟩)
              go_ret2
              exact PU.syn HZ.out HB.out
          · have HZ : Hid (∀ m, m < 4294967296 → s ≠ hexB m) := Lib.hid (Gx_bad HX.out (by
              cases hv : hval b with
              | none => rfl
              | some e => have := HLW.out e hv; omega))
            clear HN
            go_wp2_with (go_at_call 112; refine (lower_call _ _).mono ?_; rintro e w' ⟨rfl, rfl⟩)
            go_ret2
            exact PU.syn HZ.out HB.out
    · obtain rfl : k = s.size := by omega
      have HF : Hid (∀ m : Nat, m < 4294967296 → s = hexB m → a = m) := Lib.hid (fun m hm he => by have := Gx_end HN.out.2.2 m hm he; have := HN.out.1; omega)
      go_wp2
      go_ret2
      exact PU.fin a0 a1 HF.out HB.out

end Go.Proofs.YtcaceplnlfmejaaGreatDoor
