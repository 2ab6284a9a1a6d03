/- The library's FormatInt at base 16. -/
import Derived.Test.YtcaceplnlfmejaaGreatDoorWt26
namespace Go.Proofs.YtcaceplnlfmejaaGreatDoor
open Go.RowKit
open Lib (itoa decDigits parseIntB)

abbrev z8 : Value := .int .u8 0
abbrev u8v (b : UInt8) : Value := .int .u8 (b.toNat : Int)
/-- The array of 65 bytes, its last j filled. -/
def aL (n j : Nat) : List Value := List.replicate (65 - j) z8 ++ (hx n j).map u8v
theorem aL_len (n j : Nat) (h : j ≤ 65) : (aL n j).length = 65 := by simp [aL, hx_len]; omega
theorem aL_set (n j p : Nat) (h : p + j = 64) : (aL n j).set p (.int .u8 (hd (n / 16 ^ j % 16) : Nat)) = aL n (j + 1) := by
  unfold aL
  have e : 65 - j = p + 1 := by omega
  have e2 : 65 - (j + 1) = p := by omega
  rw [e, e2, List.replicate_succ', List.append_assoc, List.set_append_right _ _ (by simp), hx, List.map_cons]
  have : hd (n / 16 ^ j % 16) = (hB (n / 16 ^ j % 16)).toNat := (hB_nat (Nat.mod_lt _ (by decide))).symm
  simp [this]
theorem aL_at (n j p : Nat) (h : p + j = 64) : (aL n j)[p]? = some z8 := by
  unfold aL
  rw [List.getElem?_append_left (by simp; omega), List.getElem?_replicate, if_pos (by omega)]
theorem aL_dig (n l q i : Nat) (h : q + l = 65) (hi : i < l) : (aL n l)[q + i]? = some (.int .u8 (((hx n l).map fun c : UInt8 => (c.toNat : Int)).getD i 0)) := by
  unfold aL
  have e : 65 - l = q := by omega
  rw [e, List.getElem?_append_right (by simp)]
  simp [List.getD, hx_len, hi]
def own65 (w : World) (B b : Nat) (n j : Nat) : Prop := w.ownsRow B 141 1 (.slice (some ⟨b, 0, none⟩) 65 65) 65 (aL n j)
theorem own65_start (w : World) (n : Nat) : own65 (w.alloc (.cells Tryz.zeroCells141 141)) w.heap.size w.heap.size n 0 :=
  ⟨by rw [aL_len _ _ (by omega)], .inr ⟨w.heap.size, 65, _, rfl, Nat.le_refl _, heap_alloc_new w _, Nat.le_refl _, by unfold maxLen; omega, by rfl, by rfl⟩⟩
theorem dvd16 (n j : Nat) : n / 16 ^ j / 16 = n / 16 ^ (j + 1) := by rw [Nat.div_div_eq_div_mul, Nat.pow_succ]

set_option maxRecDepth 20000 in
theorem formatBits_16 (w : World) (n : Nat) (hn : n < 4294967296) (ht : TzC w) : Calls Tryz.prog 103 #[.slice none 0 0, .int .u64 n, .int .i64 16, .bool false, .bool false] w (fun e w' => ∃ j, e = .returned (.tuple #[.slice none 0 0, .string ⟨(hx n j).toArray⟩]) ∧ 1 ≤ j ∧ j ≤ 8 ∧ n < 16 ^ j ∧ Below w.heap.size w w') := by
  have HT := Lib.hid ht
  have hn' : (n : Int) < 4294967296 := by omega
  have HN := Lib.hid hn
  clear ht hn
  go_enter Tryz.func103, Tryz.ntmps103
  go_wp2_with fail
  refine (pow2_16 _).mono ?_
  rintro e w1 ⟨rfl, hb⟩
  have HB1 := Lib.hid (((Below.refl _ _).alloc (Nat.le_refl _) _).trans (hb.mono (show w.heap.size ≤ (w.alloc (.cells Tryz.zeroCells141 141)).heap.size by simp)))
  have HO1 : Hid (own65 w1 w.heap.size w.heap.size n 0) := Lib.hid (OwnX.later (f := fun v : Value => v) (zs := aL n 0) (by have := own65_start w n; unfold own65 at this; unfold OwnX; rw [List.map_id', aL_len _ _ (by omega)]; exact this) hb)
  clear hb
  go_wp2_with fail
  refine (tz_16 _ (HT.out.later HB1.out)).mono ?_
  rintro e w2 ⟨rfl, hb⟩
  have HB2 := Lib.hid (HB1.out.trans (hb.mono HB1.out.size))
  have HO2 : Hid (own65 w2 w.heap.size w.heap.size n 0) := Lib.hid (OwnX.later (f := fun v : Value => v) (zs := aL n 0) HO1.out hb)
  clear hb HB1 HO1
  go_wp2_with fail
  go_loopw [1, 13] (fun u i wr => ∃ j p m : Nat, p + j = 65 ∧ j ≤ 7 ∧ n / 16 ^ j = m ∧ u = .int .u64 m ∧ i = .int .i64 p ∧ own65 wr w.heap.size w.heap.size n j ∧ Below w.heap.size w wr) (fun _ i _ => (RowKit.intOf i).toNat)
  case atStart => exact ⟨0, 65, n, rfl, by omega, by simp, rfl, rfl, HO2.out, HB2.out⟩
  clear HO2 HB2
  obtain ⟨tb, htb⟩ : ∃ tb, tabB = tb := ⟨_, rfl⟩
  have hts : tb.size = 36 := by rw [← htb]; rfl
  have HTD : Hid (∀ d (h : d < tb.size), d < 16 → tb[d].toNat = hd d) := Lib.hid (by subst htb; intro d h h16; exact tab_at ⟨d, h16⟩)
  unfold tabB at htb
  rw [htb]
  clear htb
  case round =>
    obtain ⟨j, p, m, hp, hj, hm, rfl, rfl, ho, hb⟩ := hrel
    have HB := Lib.hid hb; have HO := Lib.hid ho
    have hmn : m ≤ n := by rw [← hm]; exact Nat.div_le_self _ _
    have hm64 : m < 2 ^ 64 := by omega
    have ha := and15_64 hm64
    have hmi : (m : Int) < 4294967296 := by omega
    have HM := Lib.hid hm
    clear hm hb ho hm64
    obtain ⟨q, rfl⟩ : ∃ q, p = q + 1 := ⟨p - 1, by omega⟩
    have hq65 : (q : Int) < 65 := by omega
    by_cases hge : 16 ≤ m
    · have hgei : (16 : Int) ≤ m := by omega
      have ho : wr.cell? ⟨w.heap.size, q, none⟩ = some (.int .u8 0) := (World.ownsRow.cellAt HO.out q (by omega)).trans (aL_at n j q (by omega))
      have hf : wr.frozen? ⟨w.heap.size, q, none⟩ = false := World.ownsRow.frozenAt HO.out q
      obtain ⟨d, hd⟩ : ∃ d, m % 16 = d := ⟨_, rfl⟩
      rw [hd] at ha
      have hd16 : (d : Int) < 16 := by omega
      have HD := Lib.hid hd; have HP := Lib.hid hp
      clear hd hp hmn
      have hds : d < tb.size := by omega
      have htd := HTD.out d hds (by omega)
      obtain ⟨b8, hb8⟩ : ∃ b8, tb[d] = b8 := ⟨_, rfl⟩
      rw [hb8] at htd
      have HTD8 := Lib.hid htd
      clear htd hge
      have hdsi : (d : Int) < (tb.size : Int) := by omega
      have HS : Hid (own65 (wr.setCell ⟨w.heap.size, q, none⟩ (.int .u8 (b8.toNat : Int))) w.heap.size w.heap.size n (j + 1) ∧ Below w.heap.size w (wr.setCell ⟨w.heap.size, q, none⟩ (.int .u8 (b8.toNat : Int)))) := Lib.hid (by
        have e : (Value.int .u8 (b8.toNat : Int)) = .int .u8 (hd (n / 16 ^ j % 16) : Nat) := by rw [HTD8.out, HM.out, HD.out]
        rw [e]
        have hst := World.ownsRow.stored HO.out q (.int .u8 (hd (n / 16 ^ j % 16) : Nat))
        have hs := hst.1
        rw [aL_set n j q (by have := HP.out; omega)] at hs
        exact ⟨hs, HB.out.setCell (p := ⟨w.heap.size, q, none⟩) (Nat.le_refl _) _⟩)
      have HJ : Hid (j + 1 ≤ 7) := Lib.hid (by
        rcases Nat.lt_or_ge j 7 with h | h
        · omega
        · have h7 : j = 7 := by omega
          have h1 := HM.out
          rw [h7] at h1
          have h2 := HN.out
          have h3 : (16 : Nat) ^ 7 = 268435456 := by decide
          rw [h3] at h1
          omega)
      have HMM : Hid (n / 16 ^ (j + 1) = m / 16) := Lib.hid (by rw [← dvd16, HM.out])
      go_wp2
      go_roundw
      case rel => exact ⟨j + 1, q, m / 16, by have := HP.out; omega, HJ.out, HMM.out, by simp, rfl, HS.out.1, HS.out.2⟩
      case measure => simp [RowKit.intOf]
    · have ho : wr.cell? ⟨w.heap.size, q, none⟩ = some (.int .u8 0) := (World.ownsRow.cellAt HO.out q (by omega)).trans (aL_at n j q (by omega))
      have hf : wr.frozen? ⟨w.heap.size, q, none⟩ = false := World.ownsRow.frozenAt HO.out q
      have hm16 : (m : Int) < 16 := by omega
      have hds : Hid (m < tabB.size) := Lib.hid (by show m < 36; omega)
      have htd : (tabB[m]'hds.out).toNat = hd m := tab_at ⟨m, by omega⟩
      obtain ⟨b8, hb8⟩ : ∃ b8, tabB[m]'hds.out = b8 := ⟨_, rfl⟩
      have hm36 : ((m : Int) < 36) = True := by simp; omega
      rw [hb8] at htd
      unfold tabB at hb8
      have HTD8 := Lib.hid htd
      have HP := Lib.hid hp
      have HMD : Hid (m % 16 = m) := Lib.hid (Nat.mod_eq_of_lt (by omega))
      have hneg : ((16 : Int) ≤ (m : Int)) = False := by simp; omega
      clear htd hge hp hmn ha hm16 hmi
      have HS : Hid (own65 (wr.setCell ⟨w.heap.size, q, none⟩ (.int .u8 (b8.toNat : Int))) w.heap.size w.heap.size n (j + 1) ∧ Below w.heap.size w (wr.setCell ⟨w.heap.size, q, none⟩ (.int .u8 (b8.toNat : Int)))) := Lib.hid (by
        have e : (Value.int .u8 (b8.toNat : Int)) = .int .u8 (hd (n / 16 ^ j % 16) : Nat) := by rw [HTD8.out, HM.out, HMD.out]
        rw [e]
        have hst := World.ownsRow.stored HO.out q (.int .u8 (hd (n / 16 ^ j % 16) : Nat))
        have hs := hst.1
        rw [aL_set n j q (by have := HP.out; omega)] at hs
        exact ⟨hs, HB.out.setCell (p := ⟨w.heap.size, q, none⟩) (Nat.le_refl _) _⟩)
      have hcv : ∀ dst, Tryz.prog.underlying dst = some .string → (convert 22 dst (.slice (some ⟨w.heap.size, q, none⟩) (j + 1) (j + 1))).run Tryz.prog (wr.setCell ⟨w.heap.size, q, none⟩ (.int .u8 (b8.toNat : Int))) = .ok (.string ⟨(hx n (j + 1)).toArray⟩) (wr.setCell ⟨w.heap.size, q, none⟩ (.int .u8 (b8.toNat : Int))) := by
        have := run_convert_bytes_arg (P := Tryz.prog) (wr.setCell ⟨w.heap.size, q, none⟩ (.int .u8 (b8.toNat : Int))) 22 5 Tryz.underlying22 Tryz.underlying5 w.heap.size q (j + 1) (j + 1) ((hx n (j + 1)).map fun c : UInt8 => (c.toNat : Int)) (by simp [hx_len]) (fun i hi => by
          rw [World.ownsRow.cellAt HS.out.1 (q + i) (by have := HP.out; omega)]
          exact aL_dig n (j + 1) q i (by have := HP.out; omega) hi)
        rw [str_ints] at this
        exact this
      obtain ⟨l, hl⟩ : ∃ l, j + 1 = l := ⟨_, rfl⟩
      rw [hl] at hcv
      have hl1 : ((65 : Int) - (q : Int)).toNat = l := by have := HP.out; omega
      have hl2 : 65 - q = l := by have := HP.out; omega
      have hl3 : (65 : Int) - (q : Int) = (l : Int) := by have := HP.out; omega
      have HL := Lib.hid hl
      clear hl
      have hal : Tryz.prog.arrayLen 141 = 65 := by simp [Program.arrayLen, Tryz.underlying141]
      have hsl : ∀ W, (Instr.sliceAt 141 (.pointer (some ⟨w.heap.size, 0, none⟩)) (some (.int .i64 (q : Int))) none none).run Tryz.prog W = .ok (.slice (some ⟨w.heap.size, q, none⟩) l l) W := fun W => by
        rw [run_sliceAt_array_l W 141 ⟨w.heap.size, 0, none⟩ (by simp [Program.arrayLen, Program.elem, Tryz.underlying141]) .i64 (q : Int) (by omega) (by rw [hal]; omega)]
        go_simp
        omega
      have HPW : Hid (n < 16 ^ l) := Lib.hid (by
        have h1 : n / 16 ^ l = 0 := by rw [← HL.out, ← dvd16, HM.out]; have := of_eq_false hneg; omega
        exact (Nat.div_eq_zero_iff.1 h1).resolve_left (fun h => absurd h (Nat.ne_of_gt (Nat.pow_pos (by decide)))))
      go_wp2
      go_ret2
      exact ⟨l, rfl, by have := HL.out; omega, by have := HL.out; omega, HPW.out, HS.out.2⟩

theorem formatInt_16 (w : World) (n : Nat) (hn : n < 4294967296) (ht : TzC w) : Calls Tryz.prog 88 #[.int .i64 n, .int .i64 16] w (fun e w' => ∃ j, e = .returned (.string ⟨(hx n j).toArray⟩) ∧ 1 ≤ j ∧ j ≤ 8 ∧ n < 16 ^ j ∧ Below w.heap.size w w') := by
  have HF := Lib.hid (formatBits_16 w n hn ht)
  have hwr : IntKind.u64.wrap (n : Int) = (n : Int) := by rw [IntKind.wrap_u64]; omega
  have hneg : ((n : Int) < 0) = False := by simp
  clear ht hn
  go_enter Tryz.func88, Tryz.ntmps88
  go_wp2_with fail
  refine HF.out.mono ?_
  rintro e w1 ⟨j, rfl, h1, h8, hj, hb⟩
  have HJ := Lib.hid (show _ ∧ _ ∧ _ ∧ _ from ⟨h1, h8, hj, hb⟩)
  clear h1 h8 hj hb HF
  go_wp2
  go_ret
  exact ⟨j, rfl, HJ.out⟩

theorem format_16 (w : World) (n : Nat) (hn : n < 4294967296) (ht : TzC w) : Calls Tryz.prog 74 #[.int .i64 n, .int .i64 16] w (fun e w' => ∃ j, e = .returned (.string ⟨(hx n j).toArray⟩) ∧ 1 ≤ j ∧ j ≤ 8 ∧ n < 16 ^ j ∧ Below w.heap.size w w') := by
  have HF := Lib.hid (formatInt_16 w n hn ht)
  clear ht hn
  go_enter Tryz.func74, Tryz.ntmps74
  go_wp2_with fail
  refine HF.out.mono ?_
  rintro e w1 ⟨j, rfl, h1, h8, hj, hb⟩
  have HJ := Lib.hid (show _ ∧ _ ∧ _ ∧ _ from ⟨h1, h8, hj, hb⟩)
  clear h1 h8 hj hb HF
  go_wp2
  go_ret
  exact ⟨j, rfl, HJ.out⟩

end Go.Proofs.YtcaceplnlfmejaaGreatDoor
