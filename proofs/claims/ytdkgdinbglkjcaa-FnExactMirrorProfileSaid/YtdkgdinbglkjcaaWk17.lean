/- Lists that the call owns: compared, written over with marks, and the marks found again. -/
import Derived.Test.YtdkgdinbglkjcaaWk6
import Derived.Test.YtdkgdinbglkjcaaSft
import Derived.Laws.OwnMore
import Derived.Deep.Onto
namespace Go.Proofs.Ytdkgdinbglkjcaa
open Fl Go.RowKit

theorem gb_trans {a w w' : World} {row : Option Nat} (h : a.grownBy w row) (k : w.grownBy w' row) : a.grownBy w' row :=
  ⟨k.os.trans h.os, k.tape.trans h.tape, k.output.trans h.output, Nat.le_trans h.size k.size, fun i hi hne => (k.block i (Nat.lt_of_lt_of_le hi h.size) hne).trans (h.block i hi hne)⟩
theorem gb_refl (w : World) (row : Option Nat) : w.grownBy w row := ⟨rfl, rfl, rfl, Nat.le_refl _, fun _ _ _ => rfl⟩
theorem gb_set (w : World) (b i : Nat) (v : Value) : w.grownBy (w.setCell ⟨b, i, none⟩ v) (some b) :=
  ⟨rfl, rfl, rfl, by simp [World.setCell], fun k _ hne => Below.heap_setCell _ _ _ _ (fun e => hne (by rw [e]))⟩
theorem gb_below {w w' : World} (h : Below w.heap.size w w') (row : Option Nat) : w.grownBy w' row := ⟨h.os, h.tape, h.output, h.size, fun k hk _ => h.block k hk⟩
theorem gb_drewN {w w' : World} {row : Option Nat} (h : w.grownBy w' row) (n : Nat) : w.grownBy (w'.drewN n) row := ⟨h.os, h.tape, h.output, h.size, h.block⟩
theorem below_gb {B : Nat} {a w w' : World} {row : Option Nat} (h : Below B a w) (hg : w.grownBy w' row) (hB : B ≤ w.heap.size) (hr : ∀ k, row = some k → B ≤ k) : Below B a w' := h.grown hg hB hr

/-- A list written over by marks, the first j of them done. -/
def mkL (M : Nat → Value) (xs : List Value) : Nat → List Value
  | 0 => xs
  | j + 1 => (mkL M xs j).set j (M j)
theorem mkL_len (M : Nat → Value) (xs : List Value) : ∀ j, (mkL M xs j).length = xs.length
  | 0 => rfl
  | j + 1 => by unfold mkL; rw [List.length_set]; exact mkL_len M xs j
theorem mkL_get (M : Nat → Value) (xs : List Value) : ∀ j i, i < xs.length → (mkL M xs j)[i]? = if i < j then some (M i) else xs[i]?
  | 0, i, _ => by rw [if_neg (Nat.not_lt_zero _)]; rfl
  | j + 1, i, h => by
    unfold mkL
    rw [List.getElem?_set]
    have ih := mkL_get M xs j i h
    by_cases e : j = i
    · subst e
      rw [if_pos rfl, if_pos (by rw [mkL_len]; exact h), if_pos (by omega)]
    · rw [if_neg e, ih]
      by_cases q : i < j
      · rw [if_pos q, if_pos (by omega)]
      · rw [if_neg q, if_neg (by omega)]
theorem mkL_all (M : Nat → Value) (xs : List Value) {i : Nat} (h : i < xs.length) : (mkL M xs xs.length)[i]? = some (M i) := by
  rw [mkL_get M xs _ i h, if_pos h]

def Mf (k0 : Int) (i : Nat) : Value := .float .f32 (floatOfInt .f32 (k0 + i))
def Mb (k0 : Int) (i : Nat) : Value := .bool ((k0 + i) % 3 == 0)
theorem mark_same (n : Int) : (FloatKind.f32.format.order (floatOfInt .f32 n) (floatOfInt .f32 n) != some .eq) = false := by
  rw [ne_self]
  show nan FloatKind.f32.format (FloatKind.f32.nearest n) = false
  unfold FloatKind.nearest FloatKind.encode
  exact write_not_nan rfl

theorem markFloat32S_own (w : World) (v : Value) (lo n : Nat) (xs : List Value) (k0 : Int) (h : w.ownsRow lo 23 1 v n xs) (hn : n ≤ 1048576) (h0 : 0 ≤ k0) (h1 : k0 ≤ 4194304) :
    Calls Try.prog 34 #[v, .int .i64 k0] w (fun e w' => e = .returned (.int .i64 (k0 + n)) ∧ w'.ownsRow lo 23 1 v n (mkL (Mf k0) xs n) ∧ w.grownBy w' v.ownBlock) := by
  have hx := h.1
  rw [Nat.mul_one] at hx
  rcases h.2 with ⟨rfl, rfl⟩ | ⟨g, cap, cur, rfl, hlo, hg, hnc, hcm, _⟩
  · have H := Lib.hid h; clear h hx
    go_enter Try.func34, Try.ntmps34
    go_wp2_with fail
    go_loopw [1, 5] (fun k i wr => k = .int .i64 k0 ∧ i = .int .i64 0 ∧ wr = w) (fun _ _ _ => 0)
    case atStart => exact ⟨rfl, rfl, rfl⟩
    case round =>
      obtain ⟨rfl, rfl, rfl⟩ := hrel
      go_wp2
      go_ret
      exact ⟨by simp, H.out, gb_refl _ _⟩
  · have H := Lib.hid h; have HX := Lib.hid hx; have HLO := Lib.hid hlo
    unfold maxLen at hcm
    clear h hx hg hlo
    have hn' : (n : Int) ≤ 1048576 := by omega
    go_enter Try.func34, Try.ntmps34
    go_wp2_with fail
    go_loopw [1, 5] (fun k i wr => ∃ j : Nat, j ≤ n ∧ k = .int .i64 (k0 + j) ∧ i = .int .i64 j ∧ wr.ownsRow lo 23 1 (.slice (some ⟨g, 0, none⟩) n cap) n (mkL (Mf k0) xs j) ∧ w.grownBy wr (some g)) (fun _ i _ => n - (intOf i).toNat)
    case atStart => exact ⟨0, Nat.zero_le _, by simp, rfl, H.out, gb_refl _ _⟩
    case round =>
      obtain ⟨j, hj, rfl, rfl, hown, hgr⟩ := hrel
      by_cases hlt : j < n
      · obtain ⟨u, hu⟩ : ∃ u, (mkL (Mf k0) xs j)[j]? = some u := by
          rw [mkL_get _ _ _ _ (by rw [HX.out]; exact hlt), if_neg (Nat.lt_irrefl _)]
          exact ⟨_, List.getElem?_eq_getElem (by rw [HX.out]; exact hlt)⟩
        have ho : wr.cell? ⟨g, j, none⟩ = some u := (hown.cellAt j (by omega)).trans hu
        have hf : wr.frozen? ⟨g, j, none⟩ = false := hown.frozenAt j
        have hst := hown.stored j (Mf k0 j)
        have HS := Lib.hid (show _ ∧ _ from ⟨hst.1, gb_trans hgr (gb_set wr g j (Mf k0 j))⟩)
        clear hst hown hgr hu
        have hlt' : (j : Int) < n := by omega
        go_wp2
        go_roundw
        case rel => exact ⟨j + 1, by omega, by go_num, by go_num, HS.out.1, HS.out.2⟩
        case measure => simp [intOf]; omega
      · have hjn : j = n := by omega
        subst hjn
        have HS := Lib.hid (show _ ∧ _ from ⟨hown, hgr⟩)
        clear hown hgr
        go_wp2
        go_ret
        exact ⟨rfl, HS.out.1, HS.out.2⟩

theorem heldFloat32S_own (w : World) (v : Value) (lo n : Nat) (xs : List Value) (k0 : Int) (h : w.ownsRow lo 23 1 v n xs) (hm : ∀ i, i < n → xs[i]? = some (Mf k0 i)) (hn : n ≤ 1048576) (h0 : 0 ≤ k0) (h1 : k0 ≤ 4194304) :
    Calls Try.prog 81 #[v, .int .i64 k0] w (Ret (.int .i64 (k0 + n)) w) := by
  rcases h.2 with ⟨rfl, rfl⟩ | ⟨g, cap, cur, rfl, hlo, hg, hnc, hcm, _⟩
  · clear h hm
    go_enter Try.func81, Try.ntmps81
    go_wp2_with fail
    go_loopw [1, 5] (fun k i wr => k = .int .i64 k0 ∧ i = .int .i64 0 ∧ wr = w) (fun _ _ _ => 0)
    case atStart => exact ⟨rfl, rfl, rfl⟩
    case round =>
      obtain ⟨rfl, rfl, rfl⟩ := hrel
      go_wp2
      go_ret
      exact .mk' 0 (by simp) rfl
  · have H := Lib.hid h; have HM := Lib.hid hm
    unfold maxLen at hcm
    clear h hm hg hlo
    have hn' : (n : Int) ≤ 1048576 := by omega
    go_enter Try.func81, Try.ntmps81
    go_wp2_with fail
    go_loopw [1, 5] (fun k i wr => ∃ j m : Nat, j ≤ n ∧ k = .int .i64 (k0 + j) ∧ i = .int .i64 j ∧ wr = w.drewN m) (fun _ i _ => n - (intOf i).toNat)
    case atStart => exact ⟨0, 0, Nat.zero_le _, by simp, rfl, rfl⟩
    case round =>
      obtain ⟨j, m, hj, rfl, rfl, rfl⟩ := hrel
      by_cases hlt : j < n
      · obtain ⟨z, ez⟩ : ∃ z, floatOfInt .f32 (k0 + (j : Int)) = z := ⟨_, rfl⟩
        have hc : w.cell? ⟨g, j, none⟩ = some (.float .f32 z) := by rw [← ez]; exact (H.out.cellAt j (by omega)).trans (HM.out j hlt)
        have hz := mark_same (k0 + (j : Int))
        rw [ez] at hz
        have hlt' : (j : Int) < n := by omega
        go_wp2
        go_roundw
        case rel => exact ⟨j + 1, _, by omega, by go_num, by go_num, (by first | rfl | simp only [World.drewN_drewN])⟩
        case measure => simp [intOf]; omega
      · have hjn : j = n := by omega
        subst hjn
        go_wp2
        go_ret
        exact .mk' _ rfl rfl

theorem markBoolS_own (w : World) (v : Value) (lo n : Nat) (xs : List Value) (k0 : Int) (h : w.ownsRow lo 4 1 v n xs) (hn : n ≤ 1048576) (h0 : 0 ≤ k0) (h1 : k0 ≤ 4194304) :
    Calls Try.prog 35 #[v, .int .i64 k0] w (fun e w' => e = .returned (.int .i64 (k0 + n)) ∧ w'.ownsRow lo 4 1 v n (mkL (Mb k0) xs n) ∧ w.grownBy w' v.ownBlock) := by
  have hx := h.1
  rw [Nat.mul_one] at hx
  rcases h.2 with ⟨rfl, rfl⟩ | ⟨g, cap, cur, rfl, hlo, hg, hnc, hcm, _⟩
  · have H := Lib.hid h; clear h hx
    go_enter Try.func35, Try.ntmps35
    go_wp2_with fail
    go_loopw [1, 5] (fun k i wr => k = .int .i64 k0 ∧ i = .int .i64 0 ∧ wr = w) (fun _ _ _ => 0)
    case atStart => exact ⟨rfl, rfl, rfl⟩
    case round =>
      obtain ⟨rfl, rfl, rfl⟩ := hrel
      go_wp2
      go_ret
      exact ⟨by simp, H.out, gb_refl _ _⟩
  · have H := Lib.hid h; have HX := Lib.hid hx; have HLO := Lib.hid hlo
    unfold maxLen at hcm
    clear h hx hg hlo
    have hn' : (n : Int) ≤ 1048576 := by omega
    go_enter Try.func35, Try.ntmps35
    go_wp2_with fail
    go_loopw [1, 5] (fun k i wr => ∃ j : Nat, j ≤ n ∧ k = .int .i64 (k0 + j) ∧ i = .int .i64 j ∧ wr.ownsRow lo 4 1 (.slice (some ⟨g, 0, none⟩) n cap) n (mkL (Mb k0) xs j) ∧ w.grownBy wr (some g)) (fun _ i _ => n - (intOf i).toNat)
    case atStart => exact ⟨0, Nat.zero_le _, by simp, rfl, H.out, gb_refl _ _⟩
    case round =>
      obtain ⟨j, hj, rfl, rfl, hown, hgr⟩ := hrel
      by_cases hlt : j < n
      · obtain ⟨u, hu⟩ : ∃ u, (mkL (Mb k0) xs j)[j]? = some u := by
          rw [mkL_get _ _ _ _ (by rw [HX.out]; exact hlt), if_neg (Nat.lt_irrefl _)]
          exact ⟨_, List.getElem?_eq_getElem (by rw [HX.out]; exact hlt)⟩
        have ho : wr.cell? ⟨g, j, none⟩ = some u := (hown.cellAt j (by omega)).trans hu
        have hf : wr.frozen? ⟨g, j, none⟩ = false := hown.frozenAt j
        have hst := hown.stored j (Mb k0 j)
        have HS := Lib.hid (show _ ∧ _ from ⟨hst.1, gb_trans hgr (gb_set wr g j (Mb k0 j))⟩)
        clear hst hown hgr hu
        have hlt' : (j : Int) < n := by omega
        go_wp2
        go_roundw
        case rel => exact ⟨j + 1, by omega, by go_num, by go_num, HS.out.1, HS.out.2⟩
        case measure => simp [intOf]; omega
      · have hjn : j = n := by omega
        subst hjn
        have HS := Lib.hid (show _ ∧ _ from ⟨hown, hgr⟩)
        clear hown hgr
        go_wp2
        go_ret
        exact ⟨rfl, HS.out.1, HS.out.2⟩

theorem heldBoolS_own (w : World) (v : Value) (lo n : Nat) (xs : List Value) (k0 : Int) (h : w.ownsRow lo 4 1 v n xs) (hm : ∀ i, i < n → xs[i]? = some (Mb k0 i)) (hn : n ≤ 1048576) (h0 : 0 ≤ k0) (h1 : k0 ≤ 4194304) :
    Calls Try.prog 36 #[v, .int .i64 k0] w (Ret (.int .i64 (k0 + n)) w) := by
  rcases h.2 with ⟨rfl, rfl⟩ | ⟨g, cap, cur, rfl, hlo, hg, hnc, hcm, _⟩
  · clear h hm
    go_enter Try.func36, Try.ntmps36
    go_wp2_with fail
    go_loopw [1, 5] (fun k i wr => k = .int .i64 k0 ∧ i = .int .i64 0 ∧ wr = w) (fun _ _ _ => 0)
    case atStart => exact ⟨rfl, rfl, rfl⟩
    case round =>
      obtain ⟨rfl, rfl, rfl⟩ := hrel
      go_wp2
      go_ret
      exact .mk' 0 (by simp) rfl
  · have H := Lib.hid h; have HM := Lib.hid hm
    unfold maxLen at hcm
    clear h hm hg hlo
    have hn' : (n : Int) ≤ 1048576 := by omega
    go_enter Try.func36, Try.ntmps36
    go_wp2_with fail
    go_loopw [1, 5] (fun k i wr => ∃ j m : Nat, j ≤ n ∧ k = .int .i64 (k0 + j) ∧ i = .int .i64 j ∧ wr = w.drewN m) (fun _ i _ => n - (intOf i).toNat)
    case atStart => exact ⟨0, 0, Nat.zero_le _, by simp, rfl, rfl⟩
    case round =>
      obtain ⟨j, m, hj, rfl, rfl, rfl⟩ := hrel
      by_cases hlt : j < n
      · obtain ⟨z, ez⟩ : ∃ z, ((k0 + (j : Int)) % 3 == 0) = z := ⟨_, rfl⟩
        have hc : w.cell? ⟨g, j, none⟩ = some (.bool z) := by rw [← ez]; exact (H.out.cellAt j (by omega)).trans (HM.out j hlt)
        have hz : (z == z) = true := by simp
        have hlt' : (j : Int) < n := by omega
        go_wp2
        go_roundw
        case rel => exact ⟨j + 1, _, by omega, by go_num, by go_num, (by first | rfl | simp only [World.drewN_drewN])⟩
        case measure => simp [intOf]; omega
      · have hjn : j = n := by omega
        subst hjn
        go_wp2
        go_ret
        exact .mk' _ rfl rfl

theorem eqBoolS_true (w : World) (v v' : Value) (lo lo' n : Nat) (xs : List Value) (bs : List Bool) (h : w.ownsRow lo 4 1 v n xs) (h' : w.ownsRow lo' 4 1 v' n xs) (hb : xs = bs.map Value.bool) :
    Calls Try.prog 33 #[v, v'] w (Ret (.bool true) w) := by
  have hx := h.1
  rw [Nat.mul_one] at hx
  rcases h.2 with ⟨rfl, rfl⟩ | ⟨g, cap, cur, rfl, hlo, hg, hnc, hcm, _⟩
  · have e' : ∃ a c, v' = .slice a 0 c := by
      rcases h'.2 with ⟨rfl, _⟩ | ⟨g', cap', cur', rfl, _⟩
      · exact ⟨_, _, rfl⟩
      · exact ⟨_, _, rfl⟩
    obtain ⟨a, c, rfl⟩ := e'
    clear h h' hx hb
    go_enter Try.func33, Try.ntmps33
    go_wp2_with fail
    go_loopw [5] (fun i wr => i = .int .i64 0 ∧ wr = w) (fun _ _ => 0)
    case atStart => exact ⟨rfl, rfl⟩
    case round =>
      obtain ⟨rfl, rfl⟩ := hrel
      go_wp2
      go_ret
      exact .mk' 0 rfl rfl
  · rcases h'.2 with ⟨rfl, rfl⟩ | ⟨g', cap', cur', rfl, hlo', hg', hnc', hcm', _⟩
    · clear h h' hx hb hg hcm
      go_enter Try.func33, Try.ntmps33
      go_wp2_with fail
      go_loopw [5] (fun i wr => i = .int .i64 0 ∧ wr = w) (fun _ _ => 0)
      case atStart => exact ⟨rfl, rfl⟩
      case round =>
        obtain ⟨rfl, rfl⟩ := hrel
        go_wp2
        go_ret
        exact .mk' 0 rfl rfl
    · have H := Lib.hid h; have H' := Lib.hid h'; have HX := Lib.hid hx; have HBB := Lib.hid hb
      unfold maxLen at hcm hcm'
      clear h h' hx hb hg hg' hlo hlo'
      go_enter Try.func33, Try.ntmps33
      go_wp2_with fail
      go_loopw [5] (fun i wr => ∃ j m : Nat, j ≤ n ∧ i = .int .i64 j ∧ wr = w.drewN m) (fun i _ => n - (intOf i).toNat)
      case atStart => exact ⟨0, 0, Nat.zero_le _, rfl, rfl⟩
      case round =>
        obtain ⟨j, m, hj, rfl, hw⟩ := hrel
        have HW := Lib.hid hw; clear hw
        by_cases hlt : j < n
        · obtain ⟨z, hz⟩ : ∃ z, xs[j]? = some (.bool z) := by
            have hl : j < xs.length := by rw [HX.out]; exact hlt
            have hb := HBB.out
            subst hb
            rw [List.length_map] at hl
            exact ⟨bs[j], by simp [hl]⟩
          have hc : wr.cell? ⟨g, j, none⟩ = some (.bool z) := by rw [HW.out]; exact (H.out.cellAt j (by omega)).trans hz
          have hc' : wr.cell? ⟨g', j, none⟩ = some (.bool z) := by rw [HW.out]; exact (H'.out.cellAt j (by omega)).trans hz
          clear hz
          have hlt' : (j : Int) < n := by omega
          go_wp2_with fail
          refine Soft.region (fun _ _ _ => False) (by kernel_rfl) (by kernel_rfl) ?_
          iterate 9 (with_reducible refine Soft.step_k (fun K hK => ?_); go_simp; (try intro nn); (first | with_reducible refine hK _ ?_ | (simp only [undef, reduceCtorEq, if_false]; with_reducible refine hK _ ?_)); clear hK K)
          refine Soft.wpSoft_nil ?_
          intro n2
          go_wp2
          go_roundw
          case rel => exact ⟨j + 1, _, by omega, by go_num, by rw [HW.out, World.drewN_drewN]⟩
          case measure => simp [intOf]; omega
        · have hjn : j = n := by omega
          subst hjn
          go_wp2
          go_ret
          exact .mk' _ rfl HW.out

end Go.Proofs.Ytdkgdinbglkjcaa
