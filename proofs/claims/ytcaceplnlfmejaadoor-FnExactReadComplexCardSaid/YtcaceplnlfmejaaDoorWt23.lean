/- ReadList: lists written over with marks, and the marks found again; the law. -/
import Derived.Test.YtcaceplnlfmejaaDoorWt22
import Derived.Laws.OwnMore
import Derived.Deep.Onto
namespace Go.Proofs.YtcaceplnlfmejaaDoor
open Go.RowKit
open Lib (itoa decDigits parseIntB)

theorem gb_trans {a w w' : World} {row : Option Nat} (h : a.grownBy w row) (k : w.grownBy w' row) : a.grownBy w' row :=
  ⟨k.os.trans h.os, k.tape.trans h.tape, k.output.trans h.output, Nat.le_trans h.size k.size, fun i hi hne => (k.block i (Nat.lt_of_lt_of_le hi h.size) hne).trans (h.block i hi hne)⟩
theorem gb_refl (w : World) (row : Option Nat) : w.grownBy w row := ⟨rfl, rfl, rfl, Nat.le_refl _, fun _ _ _ => rfl⟩
theorem gb_set (w : World) (b i : Nat) (v : Value) : w.grownBy (w.setCell ⟨b, i, none⟩ v) (some b) :=
  ⟨rfl, rfl, rfl, by simp [World.setCell], fun k _ hne => Below.heap_setCell _ _ _ _ (fun e => hne (by rw [e]))⟩
theorem gb_below {w w' : World} (h : Below w.heap.size w w') (row : Option Nat) : w.grownBy w' row := ⟨h.os, h.tape, h.output, h.size, fun k hk _ => h.block k hk⟩
theorem below_gb {B : Nat} {a w w' : World} {row : Option Nat} (h : Below B a w) (hg : w.grownBy w' row) (hB : B ≤ w.heap.size) (hr : ∀ k, row = some k → B ≤ k) : Below B a w' := h.grown hg hB hr

/-- A list written over by marks, the first j of them done. -/
def mkL (M : Nat → Value) (xs : List Value) : Nat → List Value
  | 0 => xs
  | j + 1 => (mkL M xs j).set j (M j)
theorem mkL_len (M : Nat → Value) (xs : List Value) : ∀ j, (mkL M xs j).length = xs.length
  | 0 => rfl
  | j + 1 => by unfold mkL; rw [List.length_set]; exact mkL_len M xs j
theorem mkL_get (M : Nat → Value) (xs : List Value) : ∀ j i, i < xs.length → (mkL M xs j)[i]? = if i < j then some (M i) else xs[i]?
  | 0, i, _ => by rw [if_neg (Nat.not_lt_zero _)]; rfl
  | j + 1, i, h => by
    unfold mkL
    rw [List.getElem?_set]
    have ih := mkL_get M xs j i h
    by_cases e : j = i
    · subst e
      rw [if_pos rfl, if_pos (by rw [mkL_len]; exact h), if_pos (by omega)]
    · rw [if_neg e, ih]
      by_cases q : i < j
      · rw [if_pos q, if_pos (by omega)]
      · rw [if_neg q, if_neg (by omega)]
theorem mkL_all (M : Nat → Value) (xs : List Value) {i : Nat} (h : i < xs.length) : (mkL M xs xs.length)[i]? = some (M i) := by
  rw [mkL_get M xs _ i h, if_pos h]
def Mi (k0 : Int) (i : Nat) : Value := .int .i64 (k0 + i)

theorem markInt64S_own (w : World) (v : Value) (lo n : Nat) (xs : List Value) (k0 : Int) (h : w.ownsRow lo 2 1 v n xs) (hn : n ≤ 1048576) (h0 : 0 ≤ k0) (h1 : k0 ≤ 4194304) :
    Calls Tryd.prog 27 #[v, .int .i64 k0] w (fun e w' => e = .returned (.int .i64 (k0 + n)) ∧ w'.ownsRow lo 2 1 v n (mkL (Mi k0) xs n) ∧ w.grownBy w' v.ownBlock) := by
  have hx := h.1
  rw [Nat.mul_one] at hx
  rcases h.2 with ⟨rfl, rfl⟩ | ⟨g, cap, cur, rfl, hlo, hg, hnc, hcm, _⟩
  · have H := Lib.hid h; clear h hx
    go_enter Tryd.func27, Tryd.ntmps27
    go_wp2_with fail
    go_loopw [1, 5] (fun k i wr => k = .int .i64 k0 ∧ i = .int .i64 0 ∧ wr = w) (fun _ _ _ => 0)
    case atStart => exact ⟨rfl, rfl, rfl⟩
    case round =>
      obtain ⟨rfl, rfl, rfl⟩ := hrel
      go_wp2
      go_ret
      exact ⟨by simp, H.out, gb_refl _ _⟩
  · have H := Lib.hid h; have HX := Lib.hid hx; have HLO := Lib.hid hlo
    unfold maxLen at hcm
    clear h hx hg hlo
    have hn' : (n : Int) ≤ 1048576 := by omega
    go_enter Tryd.func27, Tryd.ntmps27
    go_wp2_with fail
    go_loopw [1, 5] (fun k i wr => ∃ j : Nat, j ≤ n ∧ k = .int .i64 (k0 + j) ∧ i = .int .i64 j ∧ wr.ownsRow lo 2 1 (.slice (some ⟨g, 0, none⟩) n cap) n (mkL (Mi k0) xs j) ∧ w.grownBy wr (some g)) (fun _ i _ => n - (intOf i).toNat)
    case atStart => exact ⟨0, Nat.zero_le _, by simp, rfl, H.out, gb_refl _ _⟩
    case round =>
      obtain ⟨j, hj, rfl, rfl, hown, hgr⟩ := hrel
      by_cases hlt : j < n
      · obtain ⟨u, hu⟩ : ∃ u, (mkL (Mi k0) xs j)[j]? = some u := by
          rw [mkL_get _ _ _ _ (by rw [HX.out]; exact hlt), if_neg (Nat.lt_irrefl _)]
          exact ⟨_, List.getElem?_eq_getElem (by rw [HX.out]; exact hlt)⟩
        have ho : wr.cell? ⟨g, j, none⟩ = some u := (hown.cellAt j (by omega)).trans hu
        have hf : wr.frozen? ⟨g, j, none⟩ = false := hown.frozenAt j
        have hst := hown.stored j (Mi k0 j)
        have HS := Lib.hid (show _ ∧ _ from ⟨hst.1, gb_trans hgr (gb_set wr g j (Mi k0 j))⟩)
        clear hst hown hgr hu
        have hlt' : (j : Int) < n := by omega
        go_wp2
        go_roundw
        case rel => exact ⟨j + 1, by omega, by go_num, by go_num, HS.out.1, HS.out.2⟩
        case measure => simp [intOf]; omega
      · have hjn : j = n := by omega
        subst hjn
        have HS := Lib.hid (show _ ∧ _ from ⟨hown, hgr⟩)
        clear hown hgr
        go_wp2
        go_ret
        exact ⟨rfl, HS.out.1, HS.out.2⟩

theorem heldInt64S_own (w : World) (v : Value) (lo n : Nat) (xs : List Value) (k0 : Int) (h : w.ownsRow lo 2 1 v n xs) (hm : ∀ i, i < n → xs[i]? = some (Mi k0 i)) (hn : n ≤ 1048576) (h0 : 0 ≤ k0) (h1 : k0 ≤ 4194304) :
    Calls Tryd.prog 28 #[v, .int .i64 k0] w (fun e w' => e = .returned (.int .i64 (k0 + n)) ∧ Below w.heap.size w w') := by
  rcases h.2 with ⟨rfl, rfl⟩ | ⟨g, cap, cur, rfl, hlo, hg, hnc, hcm, _⟩
  · clear h hm
    go_enter Tryd.func28, Tryd.ntmps28
    go_wp2_with fail
    go_loopw [1, 5] (fun k i wr => k = .int .i64 k0 ∧ i = .int .i64 0 ∧ wr = w) (fun _ _ _ => 0)
    case atStart => exact ⟨rfl, rfl, rfl⟩
    case round =>
      obtain ⟨rfl, rfl, rfl⟩ := hrel
      go_wp2
      go_ret
      exact ⟨by simp, Below.refl _ _⟩
  · have H := Lib.hid h; have HM := Lib.hid hm
    unfold maxLen at hcm
    clear h hm hg hlo
    have hn' : (n : Int) ≤ 1048576 := by omega
    go_enter Tryd.func28, Tryd.ntmps28
    go_wp2_with fail
    go_loopw [1, 5] (fun k i wr => ∃ j : Nat, j ≤ n ∧ k = .int .i64 (k0 + j) ∧ i = .int .i64 j ∧ wr = w) (fun _ i _ => n - (intOf i).toNat)
    case atStart => exact ⟨0, Nat.zero_le _, by simp, rfl, rfl⟩
    case round =>
      obtain ⟨j, hj, rfl, rfl, rfl⟩ := hrel
      by_cases hlt : j < n
      · have hc : wr.cell? ⟨g, j, none⟩ = some (.int .i64 (k0 + (j : Int))) := (H.out.cellAt j (by omega)).trans (HM.out j hlt)
        have hlt' : (j : Int) < n := by omega
        go_wp2
        go_roundw
        case rel => exact ⟨j + 1, by omega, by go_num, by go_num, trivial⟩
        case measure => simp [intOf]; omega
      · have hjn : j = n := by omega
        subst hjn
        go_wp2
        go_ret
        exact ⟨rfl, Below.refl _ _⟩

theorem ne_of {v v' : Value} {s s' : Nat} (h : ∀ g, v.ownBlock = some g → g < s) (h' : ∀ g, v'.ownBlock = some g → s' ≤ g) (hs : s ≤ s') : v.ownBlock = none ∨ v.ownBlock ≠ v'.ownBlock := by
  cases hv : v.ownBlock with
  | none => exact .inl rfl
  | some g =>
    right
    intro hc
    have a := h g hv
    have c := h' g hc.symm
    omega
theorem row_later {w w' : World} {base : Nat} {e : TypeId} {v : Value} {n : Nat} {xs : List Value} (h : w.ownsRow base e 1 v n xs) (hb : Below w.heap.size w w') : w'.ownsRow base e 1 v n xs :=
  h.kept (gb_below hb none) (by cases v.ownBlock <;> simp)
theorem rlL_len (s : ByteArray) : (rlL s).length ≤ 64 := by
  cases h : rlOk s with
  | false => rw [rlL_no h]; simp
  | true =>
    rw [rlL_yes h]
    have h2 : (wordsB s).length ≤ 64 := by simp [rlOk] at h; exact h.2
    exact Nat.le_trans (List.length_filterMap_le _ _) h2

set_option maxRecDepth 20000 in
set_option maxHeartbeats 1600000 in
theorem law_ReadList (w : World) (s : ByteArray) (hs : s.size ≤ maxLen) (ht : Tb w) (he : Errs w) (hm : MaxL w) : Calls Tryd.prog 8 #[.string s] w (fun e w' => e = .returned (.bool true) ∧ Below w.heap.size w w') := by
  have hmx := hs
  unfold maxLen at hmx
  by_cases hlong : 1048576 < s.size
  · go_enter Tryd.func8, Tryd.ntmps8
    go_wp2
    go_ret
    exact ⟨rfl, Below.refl _ _⟩
  have hl : s.size ≤ 1048576 := by omega
  have HT := Lib.hid ht; have HE := Lib.hid he; have HM := Lib.hid hm
  have HS := Lib.hid (fun (w : World) => spec_ReadList w s hl)
  have HI := Lib.hid (fun (w : World) hm ht he => impl_ReadList w s hl hm ht he)
  have HN := rlL_len s
  unfold RetR at HS HI
  generalize rlL s = zs at *
  obtain ⟨ok, hok⟩ : ∃ ok, rlOk s = ok := ⟨_, rfl⟩
  rw [hok] at HS HI
  have hn1 : (zs.length : Int) ≤ 64 := by omega
  have hn2 : zs.length ≤ 1048576 := by omega
  have HN2 := Lib.hid hn2
  have hbb : (ok != ok) = false := by cases ok <;> rfl
  clear hok ht he hm hn2
  have HB : Hid (Below w.heap.size w w) := Lib.hid (Below.refl _ _)
  go_enter Tryd.func8, Tryd.ntmps8
  go_wp2_with fail
  refine (HS.out _).mono ?_
  rintro e w1 ⟨aW, cW, rfl, ho, hb⟩
  replace HB := Lib.hid (HB.out.trans (hb.mono HB.out.size))
  have OW := Lib.hid ho
  have hs1 : w.heap.size ≤ w1.heap.size := hb.size
  clear ho hb
  go_wp2_with fail
  refine (HI.out _ (HM.out.later HB.out) (HT.out.later HB.out) (HE.out.later HB.out)).mono ?_
  rintro e w2 ⟨aG, cG, rfl, ho, hb⟩
  have NWG := Lib.hid (ne_of (v := .slice aW zs.length cW) (v' := .slice aG zs.length cG) (fun g hg => (own_lt OW.out hg).2) (fun g hg => (own_lt ho hg).1) (Nat.le_refl _))
  have BG : Hid (∀ g, (Value.slice aG zs.length cG).ownBlock = some g → w.heap.size ≤ g) := Lib.hid (fun g hg => Nat.le_trans hs1 (own_lt ho hg).1)
  replace HB := Lib.hid (HB.out.trans (hb.mono HB.out.size))
  replace OW := Lib.hid (OW.out.later hb)
  have OG := Lib.hid ho
  clear ho hb hs1
  go_wp2_with fail
  refine (eqInt64S_true _ _ _ zs OG.out.XS OW.out.XS).mono ?_
  rintro e w3 ⟨rfl, hb⟩
  replace HB := Lib.hid (HB.out.trans (hb.mono HB.out.size))
  replace OW := Lib.hid (OW.out.later hb)
  replace OG := Lib.hid (OG.out.later hb)
  clear hb
  go_wp2_with fail
  have HG2 : Hid (w3.ownsRow w1.heap.size 2 1 (.slice aG zs.length cG) zs.length (zs.map fI)) := OG
  refine (markInt64S_own _ _ _ _ _ 1 HG2.out HN2.out (by omega) (by omega)).mono ?_
  rintro e w4 ⟨rfl, ho, hg⟩
  replace HB := Lib.hid (below_gb HB.out hg HB.out.size (fun k hk => BG.out k hk))
  have OW4 : Hid (OwnX fI 2 w4 w.heap.size (.slice aW zs.length cW) zs) := Lib.hid (World.ownsRow.kept OW.out hg NWG.out)
  have OM := Lib.hid ho
  have HMK : Hid (∀ i, i < zs.length → (mkL (Mi 1) (zs.map fI) zs.length)[i]? = some (Mi 1 i)) := Lib.hid (fun i hi => by have := mkL_all (Mi 1) (zs.map fI) (i := i) (by simpa using hi); simpa using this)
  clear ho hg OG OW HG2 NWG BG
  go_wp2_with fail
  refine (heldInt64S_own _ _ _ _ _ 1 OM.out HMK.out HN2.out (by omega) (by omega)).mono ?_
  rintro e w5 ⟨rfl, hb⟩
  replace HB := Lib.hid (HB.out.trans (hb.mono HB.out.size))
  have OW5 := Lib.hid (OW4.out.later hb)
  have OM5 := Lib.hid (row_later OM.out hb)
  clear hb OW4 OM
  go_wp2_with fail
  refine (HI.out _ (HM.out.later HB.out) (HT.out.later HB.out) (HE.out.later HB.out)).mono ?_
  rintro e w6 ⟨aH, cH, rfl, ho, hb⟩
  replace HB := Lib.hid (HB.out.trans (hb.mono HB.out.size))
  have OW6 := Lib.hid (OW5.out.later hb)
  have OM6 := Lib.hid (row_later OM5.out hb)
  have OH := Lib.hid ho
  clear hb ho OW5 OM5
  go_wp2_with fail
  refine (eqInt64S_true _ _ _ zs OH.out.XS OW6.out.XS).mono ?_
  rintro e w7 ⟨rfl, hb⟩
  replace HB := Lib.hid (HB.out.trans (hb.mono HB.out.size))
  have OM7 := Lib.hid (row_later OM6.out hb)
  clear hb OW6 OH OM6
  go_wp2_with fail
  refine (heldInt64S_own _ _ _ _ _ 1 OM7.out HMK.out HN2.out (by omega) (by omega)).mono ?_
  rintro e w8 ⟨rfl, hb⟩
  replace HB := Lib.hid (HB.out.trans (hb.mono HB.out.size))
  clear hb
  go_wp2
  go_ret
  exact ⟨rfl, HB.out⟩

end Go.Proofs.YtcaceplnlfmejaaDoor
