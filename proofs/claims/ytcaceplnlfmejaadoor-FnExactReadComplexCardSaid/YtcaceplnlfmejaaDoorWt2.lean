/- Numbers in decimal: the reference's loop over the digits. -/
import Derived.Test.YtcaceplnlfmejaaDoorWt1
namespace Go.Proofs.YtcaceplnlfmejaaDoor
open Go.RowKit

theorem dgs_shift (m : Nat) : ∀ j, dgs m (j + 1) = dgs (m / 10) j ++ [((48 + m % 10 : Nat) : Int)]
  | 0 => by simp [dgs]
  | j + 1 => by
    have ih := dgs_shift m j
    have e : m / 10 ^ (j + 1) = m / 10 / 10 ^ j := by rw [Nat.div_div_eq_div_mul, Nat.pow_succ, Nat.mul_comm]
    rw [dgs, ih, dgs, e]
    rfl
theorem digits_of (m : Nat) : ∀ j, 1 ≤ j → m < 10 ^ j → (j = 1 ∨ 10 ^ (j - 1) ≤ m) → dgs m j = (Lib.decDigits m).map fun c : UInt8 => (c.toNat : Int)
  | 0, h, _, _ => by omega
  | 1, _, h, _ => by
    have h' : m < 10 := by simpa using h
    rw [Lib.decDigits, dif_pos h']
    simp [dgs]
    omega
  | j + 2, _, h, h2 => by
    have hm : 10 ^ (j + 1) ≤ m := by
      rcases h2 with h2 | h2
      · omega
      · simpa using h2
    have h10 : ¬ m < 10 := by
      have : 10 ^ 1 ≤ 10 ^ (j + 1) := Nat.pow_le_pow_right (by decide) (by omega)
      omega
    rw [Lib.decDigits, dif_neg h10, dgs_shift, digits_of (m / 10) (j + 1) (by omega) ?_ ?_, List.map_append]
    · congr 1
      simp
      omega
    · rw [Nat.div_lt_iff_lt_mul (by decide)]
      rw [Nat.pow_succ] at h
      exact h
    · by_cases hj : j = 0
      · left; omega
      · right
        rw [Nat.le_div_iff_mul_le (by decide), ← Nat.pow_succ]
        rw [show (j + 1 - 1).succ = j + 1 by omega]
        exact hm

theorem w_id {y : Int} (h0 : -9223372036854775808 ≤ y) (h1 : y ≤ 9223372036854775807) : wrap64 y = y := by unfold wrap64; omega
theorem w_mod {e : Nat} (h : e < 10) : (48 + (e : Int)) % 256 = 48 + e := by omega
theorem get_ints (l : List Int) (i : Nat) (h : i < l.length) : (l.map (Value.int .u8))[i]? = some (.int .u8 (l.getD i 0)) := by
  rw [List.getElem?_map, List.getElem?_eq_getElem h]
  simp [List.getD, h]
theorem str_ints (l : List UInt8) : strOfNums (l.map fun c : UInt8 => (c.toNat : Int)) = ⟨l.toArray⟩ := by
  unfold strOfNums
  rw [List.map_map, show ((fun n : Int => UInt8.ofNat n.toNat) ∘ fun c : UInt8 => (c.toNat : Int)) = id by funext c; simp, List.map_id]
theorem ints_ok (l : List Int) : ∀ u ∈ l.map (Value.int .u8), u.oneCell' = true := fun u hu => by
  rw [List.mem_map] at hu
  obtain ⟨c, _, rfl⟩ := hu
  rfl

set_option maxRecDepth 20000 in
set_option maxHeartbeats 1600000 in
theorem l01Dec_neg (w : World) (n : Int) (h0 : -9223372036854775808 ≤ n) (h1 : n ≤ 9223372036854775807) (hs : n < 0) : Calls Tryd.prog 38 #[.int .i64 n] w (fun e w' => e = .returned (.string ⟨(Lib.itoa n).toArray⟩) ∧ Below w.heap.size w w') := by
  obtain ⟨i0, hi, hz0, hz1, hz2⟩ := info_parts infoB8
  go_enter Tryd.func38, Tryd.ntmps38
  go_wp2_with fail
  go_loopw [3, 4] (fun v r wr => ∃ (j g cap : Nat) (x : Int), v = .slice (some ⟨g, 0, none⟩) j cap ∧ r = .int .i64 x ∧ Bs wr w.heap.size g cap j (dgs n.natAbs j) ∧ Below w.heap.size w wr ∧ x.natAbs = n.natAbs / 10 ^ j ∧ x ≤ 0 ∧ j ≤ 20 ∧ (j ≤ 1 ∨ 10 ^ (j - 1) ≤ n.natAbs)) (fun v _ _ => 21 - lenS v)
  case atStart => exact ⟨0, _, 0, n, rfl, rfl, World.ownsRow_made _ _ 0 (Nat.le_refl _) (by unfold maxLen; omega) rfl, (Below.refl _ _).alloc (Nat.le_refl _) _, by simp, by omega, by omega, .inl (by omega)⟩
  case round =>
    obtain ⟨j, g, cap, x, rfl, rfl, ho, hb, hx, hn, hj, hl⟩ := hrel
    have b1 : -9223372036854775808 ≤ x := by
      have : x.natAbs ≤ n.natAbs := by rw [hx]; exact Nat.div_le_self _ _
      omega
    have q0 : (j : Int) ≤ 20 := by omega
    have HO := Lib.hid ho; have HB := Lib.hid hb; have HX := Lib.hid hx; have HL := Lib.hid hl
    clear ho hb hx hl
    have hstep : Hid ((j : Int) = 0 ∨ x ≠ 0 → j + 1 ≤ 20 ∧ (j + 1 ≤ 1 ∨ 10 ^ (j + 1 - 1) ≤ n.natAbs)) := Lib.hid fun hc => by
      have hm : n.natAbs ≤ 9223372036854775808 := by omega
      have h10 : j = 0 ∨ 10 ^ j ≤ n.natAbs := by
        rcases hc with hc | hc
        · left; omega
        · right
          have : 0 < n.natAbs / 10 ^ j := by rw [← HX.out]; omega
          exact (Nat.div_pos_iff.1 this).2
      have h19 : j ≤ 19 := by
        rcases h10 with h10 | h10
        · omega
        · rcases Nat.lt_or_ge j 20 with q | q
          · omega
          · have h20 : 10 ^ 20 ≤ 10 ^ j := Nat.pow_le_pow_right (by decide) q
            have : (10 : Nat) ^ 20 = 100000000000000000000 := by decide
            omega
      exact ⟨by omega, by rcases h10 with h | h
                          · left; omega
                          · right; simpa using h⟩
    obtain ⟨d, hd⟩ : ∃ d, Int.tmod x 10 = d := ⟨_, rfl⟩
    obtain ⟨y, hy⟩ : ∃ y, Int.tdiv x 10 = y := ⟨_, rfl⟩
    obtain ⟨e, he⟩ : ∃ e, n.natAbs / 10 ^ j % 10 = e := ⟨_, rfl⟩
    have hd1 : d.natAbs = e := by rw [← hd, tmod_abs, HX.out, he]
    have hd2 : d ≤ 0 := by rw [← hd]; exact tmod_neg hn
    have hy1 : y.natAbs = n.natAbs / 10 ^ (j + 1) := by rw [← hy, tdiv_abs, HX.out, div_step]
    have hy2 : y ≤ 0 := by rw [← hy]; exact tdiv_neg hn
    have he10 : e < 10 := by rw [← he]; exact Nat.mod_lt _ (by decide)
    have NEW : Hid (∀ (cap' g' : Nat) (w' : World), w'.ownsRow w.heap.size 5 1 (.slice (some ⟨g', 0, none⟩) (1 + j) cap') (1 + j) ([.int .u8 (48 + (e : Int))] ++ (dgs n.natAbs j).map (Value.int .u8)) → Bs w' w.heap.size g' cap' (j + 1) (dgs n.natAbs (j + 1))) := Lib.hid fun cap' g' w' h => by
      unfold Bs
      rw [dgs, List.map_cons, Nat.add_comm j 1, he, show ((48 + e : Nat) : Int) = 48 + (e : Int) by omega]
      exact h
    have hyb : -9223372036854775808 ≤ y := by
      have : y.natAbs ≤ n.natAbs := by rw [hy1]; exact Nat.div_le_self _ _
      omega
    have hyw : wrap64 y = y := w_id hyb (by omega)
    have HY1 := Lib.hid hy1; have HY2 := Lib.hid hy2
    clear hy1 he hn hyb
    have hcc : ((j : Int) == 0) = true ∨ (((j : Int) == 0) = false ∧ (x != 0) = true) ∨ (((j : Int) == 0) = false ∧ (x != 0) = false) := by
      cases ((j : Int) == 0)
      · cases (x != 0)
        · exact .inr (.inr ⟨rfl, rfl⟩)
        · exact .inr (.inl ⟨rfl, rfl⟩)
      · exact .inl rfl
    have hdd : d < 0 ∧ wrap64 (-d) = e ∨ ¬ d < 0 ∧ d = e := by
      by_cases h : d < 0
      · exact .inl ⟨h, by rw [w_id (by omega) (by omega)]; omega⟩
      · exact .inr ⟨h, by omega⟩
    have w2 : wrap64 (48 + (e : Int)) = 48 + e := w_id (by omega) (by omega)
    have w3 : (48 + (e : Int)) % 256 = 48 + e := w_mod he10
    have hw := HB.out.size
    have HXE : Hid (x = 0 → n.natAbs < 10 ^ j) := Lib.hid fun h => by
      have h2 := HX.out
      rw [h] at h2
      rcases Nat.lt_or_ge n.natAbs (10 ^ j) with q | q
      · exact q
      · have := Nat.div_pos q (Nat.pow_pos (by decide) (n := j) (a := 10))
        simp at h2
        omega
    clear hd1 hd2 he10 HX b1
    rcases hcc with hj0 | ⟨hj0, hx0⟩ | ⟨hj0, hx0⟩
    · have HS := Lib.hid (hstep.out (.inl (by simpa using hj0)))
      clear hstep
      rcases hdd with ⟨hneg, hwd⟩ | ⟨hneg, hde⟩
      · skip
        go_wp2_with (at_builtin; refine wpList_append_own_at _ rfl _ _ 69 rfl w.heap.size 5 i0 (.int .u8 0) 1 1 Tryd.underlying69 hi hz0 hz1 hz2 rfl (by decide) _ _ _ rfl (own_one wr w.heap.size _ hw) ⟨g, 0, none⟩ j cap ((dgs n.natAbs j).map (Value.int .u8)) rfl (by simp [dgs_len]) (HO.out.news _) (ints_ok _) (by unfold maxLen; omega) (by omega) (by simp; omega) ?_)
        intro v1 w1 ho hg hnil hat
        obtain ⟨g1, c1, rfl⟩ : ∃ g1 c1, v1 = .slice (some ⟨g1, 0, none⟩) (1 + j) c1 := by
          rcases ho.2 with ⟨_, h'⟩ | ⟨g', cap', cur, h', _⟩
          · omega
          · exact ⟨_, _, h'⟩
        have HO1 := Lib.hid (NEW.out _ _ _ ho)
        have HB1 : Hid (Below w.heap.size w w1) := Lib.hid (Below.grown (HB.out.alloc hw _) hg (by simp; omega) (fun k hk => by simp [Value.ownBlock] at hk; omega))
        clear ho hg hnil hat
        go_wp2
        go_roundw
        case rel => exact ⟨j + 1, _, _, y, by rw [Nat.add_comm 1 j], by rw [hyw], HO1.out, HB1.out, HY1.out, HY2.out, HS.out.1, HS.out.2⟩
        case measure => simp [lenS]; have := HS.out.1; omega
      · subst hde
        go_wp2_with (at_builtin; refine wpList_append_own_at _ rfl _ _ 69 rfl w.heap.size 5 i0 (.int .u8 0) 1 1 Tryd.underlying69 hi hz0 hz1 hz2 rfl (by decide) _ _ _ rfl (own_one wr w.heap.size _ hw) ⟨g, 0, none⟩ j cap ((dgs n.natAbs j).map (Value.int .u8)) rfl (by simp [dgs_len]) (HO.out.news _) (ints_ok _) (by unfold maxLen; omega) (by omega) (by simp; omega) ?_)
        intro v1 w1 ho hg hnil hat
        obtain ⟨g1, c1, rfl⟩ : ∃ g1 c1, v1 = .slice (some ⟨g1, 0, none⟩) (1 + j) c1 := by
          rcases ho.2 with ⟨_, h'⟩ | ⟨g', cap', cur, h', _⟩
          · omega
          · exact ⟨_, _, h'⟩
        have HO1 := Lib.hid (NEW.out _ _ _ ho)
        have HB1 : Hid (Below w.heap.size w w1) := Lib.hid (Below.grown (HB.out.alloc hw _) hg (by simp; omega) (fun k hk => by simp [Value.ownBlock] at hk; omega))
        clear ho hg hnil hat
        go_wp2
        go_roundw
        case rel => exact ⟨j + 1, _, _, y, by rw [Nat.add_comm 1 j], by rw [hyw], HO1.out, HB1.out, HY1.out, HY2.out, HS.out.1, HS.out.2⟩
        case measure => simp [lenS]; have := HS.out.1; omega
    · have HS := Lib.hid (hstep.out (.inr (by simpa using hx0)))
      clear hstep
      rcases hdd with ⟨hneg, hwd⟩ | ⟨hneg, hde⟩
      · skip
        go_wp2_with (at_builtin; refine wpList_append_own_at _ rfl _ _ 69 rfl w.heap.size 5 i0 (.int .u8 0) 1 1 Tryd.underlying69 hi hz0 hz1 hz2 rfl (by decide) _ _ _ rfl (own_one wr w.heap.size _ hw) ⟨g, 0, none⟩ j cap ((dgs n.natAbs j).map (Value.int .u8)) rfl (by simp [dgs_len]) (HO.out.news _) (ints_ok _) (by unfold maxLen; omega) (by omega) (by simp; omega) ?_)
        intro v1 w1 ho hg hnil hat
        obtain ⟨g1, c1, rfl⟩ : ∃ g1 c1, v1 = .slice (some ⟨g1, 0, none⟩) (1 + j) c1 := by
          rcases ho.2 with ⟨_, h'⟩ | ⟨g', cap', cur, h', _⟩
          · omega
          · exact ⟨_, _, h'⟩
        have HO1 := Lib.hid (NEW.out _ _ _ ho)
        have HB1 : Hid (Below w.heap.size w w1) := Lib.hid (Below.grown (HB.out.alloc hw _) hg (by simp; omega) (fun k hk => by simp [Value.ownBlock] at hk; omega))
        clear ho hg hnil hat
        go_wp2
        go_roundw
        case rel => exact ⟨j + 1, _, _, y, by rw [Nat.add_comm 1 j], by rw [hyw], HO1.out, HB1.out, HY1.out, HY2.out, HS.out.1, HS.out.2⟩
        case measure => simp [lenS]; have := HS.out.1; omega
      · subst hde
        go_wp2_with (at_builtin; refine wpList_append_own_at _ rfl _ _ 69 rfl w.heap.size 5 i0 (.int .u8 0) 1 1 Tryd.underlying69 hi hz0 hz1 hz2 rfl (by decide) _ _ _ rfl (own_one wr w.heap.size _ hw) ⟨g, 0, none⟩ j cap ((dgs n.natAbs j).map (Value.int .u8)) rfl (by simp [dgs_len]) (HO.out.news _) (ints_ok _) (by unfold maxLen; omega) (by omega) (by simp; omega) ?_)
        intro v1 w1 ho hg hnil hat
        obtain ⟨g1, c1, rfl⟩ : ∃ g1 c1, v1 = .slice (some ⟨g1, 0, none⟩) (1 + j) c1 := by
          rcases ho.2 with ⟨_, h'⟩ | ⟨g', cap', cur, h', _⟩
          · omega
          · exact ⟨_, _, h'⟩
        have HO1 := Lib.hid (NEW.out _ _ _ ho)
        have HB1 : Hid (Below w.heap.size w w1) := Lib.hid (Below.grown (HB.out.alloc hw _) hg (by simp; omega) (fun k hk => by simp [Value.ownBlock] at hk; omega))
        clear ho hg hnil hat
        go_wp2
        go_roundw
        case rel => exact ⟨j + 1, _, _, y, by rw [Nat.add_comm 1 j], by rw [hyw], HO1.out, HB1.out, HY1.out, HY2.out, HS.out.1, HS.out.2⟩
        case measure => simp [lenS]; have := HS.out.1; omega
    · have hx' : x = 0 := by simpa using hx0
      have hj1 : 1 ≤ j := by
        have : (j : Int) ≠ 0 := by simpa using hj0
        omega
      have HT : Hid (Lib.itoa n = (45 : UInt8) :: Lib.decDigits n.natAbs ∧ dgs n.natAbs j = (Lib.decDigits n.natAbs).map fun c : UInt8 => (c.toNat : Int)) := Lib.hid ⟨by unfold Lib.itoa; rw [if_pos hs], digits_of _ _ hj1 (HXE.out hx') (by rcases HL.out with h | h; exact .inl (by omega); exact .inr h)⟩
      clear hstep hdd NEW HY1 HY2 HXE HL hyw hd hy
      go_wp2_with (at_builtin; refine wpList_append_own_at _ rfl _ _ 69 rfl w.heap.size 5 i0 (.int .u8 0) 1 1 Tryd.underlying69 hi hz0 hz1 hz2 rfl (by decide) _ _ _ rfl (own_one wr w.heap.size _ hw) ⟨g, 0, none⟩ j cap ((dgs n.natAbs j).map (Value.int .u8)) rfl (by simp [dgs_len]) (HO.out.news _) (ints_ok _) (by unfold maxLen; omega) (by omega) (by simp; omega) ?_)
      intro v1 w1 ho hg hnil hat
      obtain ⟨g1, c1, rfl⟩ : ∃ g1 c1, v1 = .slice (some ⟨g1, 0, none⟩) (1 + j) c1 := by
        rcases ho.2 with ⟨_, h'⟩ | ⟨g', cap', cur, h', _⟩
        · omega
        · exact ⟨_, _, h'⟩
      have HB1 : Hid (Below w.heap.size w w1) := Lib.hid (Below.grown (HB.out.alloc hw _) hg (by simp; omega) (fun k hk => by simp [Value.ownBlock] at hk; omega))
      have hcv := run_convert_bytes_arg (P := Tryd.prog) w1 69 5 Tryd.underlying69 Tryd.underlying5 g1 0 (1 + j) c1 (45 :: dgs n.natAbs j) (by simp [dgs_len]; omega) (fun i hi => by
        rw [Nat.zero_add]
        exact (ho.cellAt i (by omega)).trans (get_ints (45 :: dgs n.natAbs j) i (by simp [dgs_len]; omega))) 9 Tryd.underlying9
      have HF : Hid (Value.string (strOfNums (45 :: dgs n.natAbs j)) = .string ⟨(Lib.itoa n).toArray⟩) := Lib.hid (by
        rw [HT.out.1, HT.out.2, ← str_ints (45 :: Lib.decDigits n.natAbs)]
        rfl)
      clear ho hg hnil hat
      go_wp2
      go_ret
      exact ⟨congrArg Ending.returned HF.out, HB1.out⟩

set_option maxRecDepth 20000 in
set_option maxHeartbeats 1600000 in
theorem l01Dec_pos (w : World) (n : Int) (h0 : -9223372036854775808 ≤ n) (h1 : n ≤ 9223372036854775807) (hs : 0 ≤ n) : Calls Tryd.prog 38 #[.int .i64 n] w (fun e w' => e = .returned (.string ⟨(Lib.itoa n).toArray⟩) ∧ Below w.heap.size w w') := by
  obtain ⟨i0, hi, hz0, hz1, hz2⟩ := info_parts infoB8
  go_enter Tryd.func38, Tryd.ntmps38
  go_wp2_with fail
  go_loopw [3, 4] (fun v r wr => ∃ (j g cap : Nat) (x : Int), v = .slice (some ⟨g, 0, none⟩) j cap ∧ r = .int .i64 x ∧ Bs wr w.heap.size g cap j (dgs n.natAbs j) ∧ Below w.heap.size w wr ∧ x.natAbs = n.natAbs / 10 ^ j ∧ 0 ≤ x ∧ j ≤ 20 ∧ (j ≤ 1 ∨ 10 ^ (j - 1) ≤ n.natAbs)) (fun v _ _ => 21 - lenS v)
  case atStart => exact ⟨0, _, 0, n, rfl, rfl, World.ownsRow_made _ _ 0 (Nat.le_refl _) (by unfold maxLen; omega) rfl, (Below.refl _ _).alloc (Nat.le_refl _) _, by simp, by omega, by omega, .inl (by omega)⟩
  case round =>
    obtain ⟨j, g, cap, x, rfl, rfl, ho, hb, hx, hn, hj, hl⟩ := hrel
    have b1 : x ≤ 9223372036854775807 := by
      have : x.natAbs ≤ n.natAbs := by rw [hx]; exact Nat.div_le_self _ _
      omega
    have q0 : (j : Int) ≤ 20 := by omega
    have HO := Lib.hid ho; have HB := Lib.hid hb; have HX := Lib.hid hx; have HL := Lib.hid hl
    clear ho hb hx hl
    have hstep : Hid ((j : Int) = 0 ∨ x ≠ 0 → j + 1 ≤ 20 ∧ (j + 1 ≤ 1 ∨ 10 ^ (j + 1 - 1) ≤ n.natAbs)) := Lib.hid fun hc => by
      have hm : n.natAbs ≤ 9223372036854775808 := by omega
      have h10 : j = 0 ∨ 10 ^ j ≤ n.natAbs := by
        rcases hc with hc | hc
        · left; omega
        · right
          have : 0 < n.natAbs / 10 ^ j := by rw [← HX.out]; omega
          exact (Nat.div_pos_iff.1 this).2
      have h19 : j ≤ 19 := by
        rcases h10 with h10 | h10
        · omega
        · rcases Nat.lt_or_ge j 20 with q | q
          · omega
          · have h20 : 10 ^ 20 ≤ 10 ^ j := Nat.pow_le_pow_right (by decide) q
            have : (10 : Nat) ^ 20 = 100000000000000000000 := by decide
            omega
      exact ⟨by omega, by rcases h10 with h | h
                          · left; omega
                          · right; simpa using h⟩
    obtain ⟨d, hd⟩ : ∃ d, Int.tmod x 10 = d := ⟨_, rfl⟩
    obtain ⟨y, hy⟩ : ∃ y, Int.tdiv x 10 = y := ⟨_, rfl⟩
    obtain ⟨e, he⟩ : ∃ e, n.natAbs / 10 ^ j % 10 = e := ⟨_, rfl⟩
    have hd1 : d.natAbs = e := by rw [← hd, tmod_abs, HX.out, he]
    have hd2 : 0 ≤ d := by rw [← hd]; exact tmod_pos hn
    have hy1 : y.natAbs = n.natAbs / 10 ^ (j + 1) := by rw [← hy, tdiv_abs, HX.out, div_step]
    have hy2 : 0 ≤ y := by rw [← hy]; exact tdiv_pos hn
    have he10 : e < 10 := by rw [← he]; exact Nat.mod_lt _ (by decide)
    have NEW : Hid (∀ (cap' g' : Nat) (w' : World), w'.ownsRow w.heap.size 5 1 (.slice (some ⟨g', 0, none⟩) (1 + j) cap') (1 + j) ([.int .u8 (48 + (e : Int))] ++ (dgs n.natAbs j).map (Value.int .u8)) → Bs w' w.heap.size g' cap' (j + 1) (dgs n.natAbs (j + 1))) := Lib.hid fun cap' g' w' h => by
      unfold Bs
      rw [dgs, List.map_cons, Nat.add_comm j 1, he, show ((48 + e : Nat) : Int) = 48 + (e : Int) by omega]
      exact h
    have hyb : y ≤ 9223372036854775807 := by
      have : y.natAbs ≤ n.natAbs := by rw [hy1]; exact Nat.div_le_self _ _
      omega
    have hyw : wrap64 y = y := w_id (by omega) hyb
    have HY1 := Lib.hid hy1; have HY2 := Lib.hid hy2
    clear hy1 he hn hyb
    have hcc : ((j : Int) == 0) = true ∨ (((j : Int) == 0) = false ∧ (x != 0) = true) ∨ (((j : Int) == 0) = false ∧ (x != 0) = false) := by
      cases ((j : Int) == 0)
      · cases (x != 0)
        · exact .inr (.inr ⟨rfl, rfl⟩)
        · exact .inr (.inl ⟨rfl, rfl⟩)
      · exact .inl rfl
    have hdd : d < 0 ∧ wrap64 (-d) = e ∨ ¬ d < 0 ∧ d = e := by
      by_cases h : d < 0
      · exact .inl ⟨h, by rw [w_id (by omega) (by omega)]; omega⟩
      · exact .inr ⟨h, by omega⟩
    have w2 : wrap64 (48 + (e : Int)) = 48 + e := w_id (by omega) (by omega)
    have w3 : (48 + (e : Int)) % 256 = 48 + e := w_mod he10
    have hw := HB.out.size
    have HXE : Hid (x = 0 → n.natAbs < 10 ^ j) := Lib.hid fun h => by
      have h2 := HX.out
      rw [h] at h2
      rcases Nat.lt_or_ge n.natAbs (10 ^ j) with q | q
      · exact q
      · have := Nat.div_pos q (Nat.pow_pos (by decide) (n := j) (a := 10))
        simp at h2
        omega
    clear hd1 hd2 he10 HX b1
    rcases hcc with hj0 | ⟨hj0, hx0⟩ | ⟨hj0, hx0⟩
    · have HS := Lib.hid (hstep.out (.inl (by simpa using hj0)))
      clear hstep
      rcases hdd with ⟨hneg, hwd⟩ | ⟨hneg, hde⟩
      · skip
        go_wp2_with (at_builtin; refine wpList_append_own_at _ rfl _ _ 69 rfl w.heap.size 5 i0 (.int .u8 0) 1 1 Tryd.underlying69 hi hz0 hz1 hz2 rfl (by decide) _ _ _ rfl (own_one wr w.heap.size _ hw) ⟨g, 0, none⟩ j cap ((dgs n.natAbs j).map (Value.int .u8)) rfl (by simp [dgs_len]) (HO.out.news _) (ints_ok _) (by unfold maxLen; omega) (by omega) (by simp; omega) ?_)
        intro v1 w1 ho hg hnil hat
        obtain ⟨g1, c1, rfl⟩ : ∃ g1 c1, v1 = .slice (some ⟨g1, 0, none⟩) (1 + j) c1 := by
          rcases ho.2 with ⟨_, h'⟩ | ⟨g', cap', cur, h', _⟩
          · omega
          · exact ⟨_, _, h'⟩
        have HO1 := Lib.hid (NEW.out _ _ _ ho)
        have HB1 : Hid (Below w.heap.size w w1) := Lib.hid (Below.grown (HB.out.alloc hw _) hg (by simp; omega) (fun k hk => by simp [Value.ownBlock] at hk; omega))
        clear ho hg hnil hat
        go_wp2
        go_roundw
        case rel => exact ⟨j + 1, _, _, y, by rw [Nat.add_comm 1 j], by rw [hyw], HO1.out, HB1.out, HY1.out, HY2.out, HS.out.1, HS.out.2⟩
        case measure => simp [lenS]; have := HS.out.1; omega
      · subst hde
        go_wp2_with (at_builtin; refine wpList_append_own_at _ rfl _ _ 69 rfl w.heap.size 5 i0 (.int .u8 0) 1 1 Tryd.underlying69 hi hz0 hz1 hz2 rfl (by decide) _ _ _ rfl (own_one wr w.heap.size _ hw) ⟨g, 0, none⟩ j cap ((dgs n.natAbs j).map (Value.int .u8)) rfl (by simp [dgs_len]) (HO.out.news _) (ints_ok _) (by unfold maxLen; omega) (by omega) (by simp; omega) ?_)
        intro v1 w1 ho hg hnil hat
        obtain ⟨g1, c1, rfl⟩ : ∃ g1 c1, v1 = .slice (some ⟨g1, 0, none⟩) (1 + j) c1 := by
          rcases ho.2 with ⟨_, h'⟩ | ⟨g', cap', cur, h', _⟩
          · omega
          · exact ⟨_, _, h'⟩
        have HO1 := Lib.hid (NEW.out _ _ _ ho)
        have HB1 : Hid (Below w.heap.size w w1) := Lib.hid (Below.grown (HB.out.alloc hw _) hg (by simp; omega) (fun k hk => by simp [Value.ownBlock] at hk; omega))
        clear ho hg hnil hat
        go_wp2
        go_roundw
        case rel => exact ⟨j + 1, _, _, y, by rw [Nat.add_comm 1 j], by rw [hyw], HO1.out, HB1.out, HY1.out, HY2.out, HS.out.1, HS.out.2⟩
        case measure => simp [lenS]; have := HS.out.1; omega
    · have HS := Lib.hid (hstep.out (.inr (by simpa using hx0)))
      clear hstep
      rcases hdd with ⟨hneg, hwd⟩ | ⟨hneg, hde⟩
      · skip
        go_wp2_with (at_builtin; refine wpList_append_own_at _ rfl _ _ 69 rfl w.heap.size 5 i0 (.int .u8 0) 1 1 Tryd.underlying69 hi hz0 hz1 hz2 rfl (by decide) _ _ _ rfl (own_one wr w.heap.size _ hw) ⟨g, 0, none⟩ j cap ((dgs n.natAbs j).map (Value.int .u8)) rfl (by simp [dgs_len]) (HO.out.news _) (ints_ok _) (by unfold maxLen; omega) (by omega) (by simp; omega) ?_)
        intro v1 w1 ho hg hnil hat
        obtain ⟨g1, c1, rfl⟩ : ∃ g1 c1, v1 = .slice (some ⟨g1, 0, none⟩) (1 + j) c1 := by
          rcases ho.2 with ⟨_, h'⟩ | ⟨g', cap', cur, h', _⟩
          · omega
          · exact ⟨_, _, h'⟩
        have HO1 := Lib.hid (NEW.out _ _ _ ho)
        have HB1 : Hid (Below w.heap.size w w1) := Lib.hid (Below.grown (HB.out.alloc hw _) hg (by simp; omega) (fun k hk => by simp [Value.ownBlock] at hk; omega))
        clear ho hg hnil hat
        go_wp2
        go_roundw
        case rel => exact ⟨j + 1, _, _, y, by rw [Nat.add_comm 1 j], by rw [hyw], HO1.out, HB1.out, HY1.out, HY2.out, HS.out.1, HS.out.2⟩
        case measure => simp [lenS]; have := HS.out.1; omega
      · subst hde
        go_wp2_with (at_builtin; refine wpList_append_own_at _ rfl _ _ 69 rfl w.heap.size 5 i0 (.int .u8 0) 1 1 Tryd.underlying69 hi hz0 hz1 hz2 rfl (by decide) _ _ _ rfl (own_one wr w.heap.size _ hw) ⟨g, 0, none⟩ j cap ((dgs n.natAbs j).map (Value.int .u8)) rfl (by simp [dgs_len]) (HO.out.news _) (ints_ok _) (by unfold maxLen; omega) (by omega) (by simp; omega) ?_)
        intro v1 w1 ho hg hnil hat
        obtain ⟨g1, c1, rfl⟩ : ∃ g1 c1, v1 = .slice (some ⟨g1, 0, none⟩) (1 + j) c1 := by
          rcases ho.2 with ⟨_, h'⟩ | ⟨g', cap', cur, h', _⟩
          · omega
          · exact ⟨_, _, h'⟩
        have HO1 := Lib.hid (NEW.out _ _ _ ho)
        have HB1 : Hid (Below w.heap.size w w1) := Lib.hid (Below.grown (HB.out.alloc hw _) hg (by simp; omega) (fun k hk => by simp [Value.ownBlock] at hk; omega))
        clear ho hg hnil hat
        go_wp2
        go_roundw
        case rel => exact ⟨j + 1, _, _, y, by rw [Nat.add_comm 1 j], by rw [hyw], HO1.out, HB1.out, HY1.out, HY2.out, HS.out.1, HS.out.2⟩
        case measure => simp [lenS]; have := HS.out.1; omega
    · have hx' : x = 0 := by simpa using hx0
      have hj1 : 1 ≤ j := by
        have : (j : Int) ≠ 0 := by simpa using hj0
        omega
      have HT : Hid (Lib.itoa n = Lib.decDigits n.natAbs ∧ dgs n.natAbs j = (Lib.decDigits n.natAbs).map fun c : UInt8 => (c.toNat : Int)) := Lib.hid ⟨by unfold Lib.itoa; rw [if_neg (by omega)]; congr 1; omega, digits_of _ _ hj1 (HXE.out hx') (by rcases HL.out with h | h; exact .inl (by omega); exact .inr h)⟩
      have hcv := run_convert_bytes_arg (P := Tryd.prog) wr 69 5 Tryd.underlying69 Tryd.underlying5 g 0 j cap (dgs n.natAbs j) (dgs_len _ _) (fun i hi => by
        rw [Nat.zero_add]
        exact (HO.out.cellAt i (by omega)).trans (get_ints (dgs n.natAbs j) i (by rw [dgs_len]; omega))) 9 Tryd.underlying9
      have HF : Hid (Value.string (strOfNums (dgs n.natAbs j)) = .string ⟨(Lib.itoa n).toArray⟩) := Lib.hid (by rw [HT.out.1, HT.out.2, ← str_ints (Lib.decDigits n.natAbs)])
      clear hstep hdd NEW HY1 HY2 HXE HL hyw hd hy
      go_wp2
      go_ret
      exact ⟨congrArg Ending.returned HF.out, HB.out⟩

theorem spec_l01Dec (w : World) (n : Int) (h0 : -9223372036854775808 ≤ n) (h1 : n ≤ 9223372036854775807) : Calls Tryd.prog 38 #[.int .i64 n] w (fun e w' => e = .returned (.string ⟨(Lib.itoa n).toArray⟩) ∧ Below w.heap.size w w') := by
  rcases (by omega : n < 0 ∨ 0 ≤ n) with h | h
  · exact l01Dec_neg w n h0 h1 h
  · exact l01Dec_pos w n h0 h1 h

end Go.Proofs.YtcaceplnlfmejaaDoor
