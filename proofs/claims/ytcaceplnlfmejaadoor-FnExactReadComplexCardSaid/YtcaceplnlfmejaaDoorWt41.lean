/- Complex numbers in lists: comparison, marks. -/
import Derived.Test.YtcaceplnlfmejaaDoorWt38
import Derived.Laws.Cover3
namespace Go.Proofs.YtcaceplnlfmejaaDoor
open Fl Go.RowKit

@[go_sem high] theorem run_cvc {P : Program} (w : World) (src dst : TypeId) (s d : FloatKind) (a b : Nat) (hs : (P.underlying src).isSome = true) (hd : P.underlying dst = some (.complex d)) :
    (convert src dst (.complex s a b)).run P w = .ok (.complex d (cv s a d w) (cv s b d (w.drewN (cd s a d)))) ((w.drewN (cd s a d)).drewN (cd s b d)) := by
  obtain ⟨u, hs'⟩ := Option.isSome_iff_exists.1 hs
  have e : (Conv.complexToComplex s a b d).run P w = .ok (.complex d (cv s a d w) (cv s b d (w.drewN (cd s a d)))) ((w.drewN (cd s a d)).drewN (cd s b d)) := by
    simp [Conv.complexToComplex, run_f2f]
  rw [← e]
  cases u <;> simp [convert, run_underlying hs', run_underlying hd]
abbrev fC : Nat × Nat → Value := fun p => Value.complex .f32 p.1 p.2
theorem infoC : (Tryd.prog.info? 66).map (fun i => (i.zero, i.size, i.bytes)) = some (some (.complex .f32 0 0), 1, 8) := by kernel_rfl

theorem sameComplex_true (a b c d : Nat) (h1 : cls .f64 a = cls .f64 c) (h2 : cls .f64 b = cls .f64 d) (w : World) : Calls Tryd.prog 56 #[.complex .f64 a b, .complex .f64 c d] w (Ret (.bool true) w) := by
  have H1 := Lib.hid (fun w => sameFloat_true a c h1 w)
  have H2 := Lib.hid (fun w => sameFloat_true b d h2 w)
  clear h1 h2
  go_enter Tryd.func56, Tryd.ntmps56
  go_wp2_with fail
  refine (H1.out _).mono ?_
  rintro e w1 ⟨rfl, n1, hw1⟩
  have HW1 := Lib.hid hw1; clear hw1
  go_wp2_with fail
  refine (H2.out _).mono ?_
  rintro e w2 ⟨rfl, n2, hw2⟩
  have HW2 := Lib.hid hw2; clear hw2
  go_wp2
  go_ret
  exact .mk' (n1 + n2) rfl (by rw [HW2.out, HW1.out, World.drewN_drewN])

theorem eqComplex64S_true (w : World) (v v' : Value) (zs : List (Nat × Nat)) (h : XS fC w v zs) (h' : XS fC w v' zs) :
    Calls Tryd.prog 35 #[v, v'] w (Ret (.bool true) w) := by
  obtain ⟨a, len, cap, rfl⟩ := h.shape
  obtain ⟨rfl, hm, HC⟩ := h.at
  obtain ⟨a', len', cap', rfl⟩ := h'.shape
  obtain ⟨rfl, _, HC'⟩ := h'.at
  unfold maxLen at hm
  clear h h'
  go_enter Tryd.func35, Tryd.ntmps35
  go_wp2_with fail
  go_loopw [5] (fun i wr => ∃ k n : Nat, k ≤ zs.length ∧ i = .int .i64 k ∧ wr = w.drewN n) (fun i _ => zs.length - (intOf i).toNat)
  case atStart => exact ⟨0, 0, Nat.zero_le _, rfl, rfl⟩
  case round =>
    obtain ⟨k, n, hk, rfl, hw⟩ := hrel
    have HW := Lib.hid hw; clear hw
    by_cases hlt : k < zs.length
    · obtain ⟨⟨x, y⟩, hx⟩ := at_of_lt hlt
      obtain ⟨b, off, rfl, hb, hc0⟩ := HC.out k _ hx
      obtain ⟨b', off', rfl, hb', hc0'⟩ := HC'.out k _ hx
      have hc1 : wr.cell? ⟨b, off + k, none⟩ = some (.complex .f32 x y) := by rw [HW.out]; exact hc0
      have hc1' : wr.cell? ⟨b', off' + k, none⟩ = some (.complex .f32 x y) := by rw [HW.out]; exact hc0'
      clear hc0 hc0' hx
      go_wp2_with fail
      refine Soft.region (fun _ _ v => v = .bool true) (by kernel_rfl) (by kernel_rfl) ?_
      repeat (refine Soft.step_k (fun K hK => ?_); go_simp; (try intro nn); refine hK _ ?_; clear hK K)
      refine Soft.step_k (fun K hK => ?_)
      go_simp
      refine ⟨fun n1 => (sameComplex_true _ _ _ _ (by rw [cls_widen, cls_widen]) (by rw [cls_widen, cls_widen]) _).mono fun _ _ h => h.soft, hK _ ?_⟩
      clear hK K
      repeat (refine Soft.step_k (fun K hK => ?_); go_simp; (try intro nn); refine hK _ ?_; clear hK K)
      refine Soft.wpSoft_nil ?_
      intro n2
      go_wp2
      go_roundw
      case rel => exact ⟨k + 1, _, by omega, by go_num, by rw [HW.out, World.drewN_drewN]⟩
      case measure => simp [intOf]; omega
    · go_wp2
      go_ret
      exact .mk' _ rfl HW.out

/-- The marks. -/
def mz (k : Nat) : Nat := (floatToFloatBits .f64 (floatOfInt .f64 (k : Int)) .f32).getD 0
theorem mz_ok : ∀ k : Fin 258, floatToFloatBits .f64 (floatOfInt .f64 (k.1 : Int)) .f32 = some (mz k.1) ∧ (FloatKind.f32.format.order (mz k.1) (mz k.1) == some .eq) = true := by decide +kernel
theorem mz_cv {j : Nat} (h : j < 257) (w : World) : cv .f64 (floatOfInt .f64 (1 + (j : Int))) .f32 w = mz (1 + j) := by
  have e := (mz_ok ⟨1 + j, by omega⟩).1
  simp only at e
  rw [show ((1 + j : Nat) : Int) = 1 + (j : Int) by omega] at e
  unfold cv
  rw [e]
theorem mz_cd {j : Nat} (h : j < 257) : cd .f64 (floatOfInt .f64 (1 + (j : Int))) .f32 = 0 := by
  have e := (mz_ok ⟨1 + j, by omega⟩).1
  simp only at e
  rw [show ((1 + j : Nat) : Int) = 1 + (j : Int) by omega] at e
  unfold cd
  rw [e]; rfl
theorem one_bits : floatToFloatBits .f64 4607182418800017408 .f32 = some 1065353216 := by decide +kernel
theorem one_cv (w : World) : cv .f64 4607182418800017408 .f32 w = 1065353216 := by unfold cv; rw [one_bits]
theorem one_cd : cd .f64 4607182418800017408 .f32 = 0 := by unfold cd; rw [one_bits]; rfl
theorem one_or : (FloatKind.f32.format.order 1065353216 1065353216 == some .eq) = true := by decide +kernel
def Mc (i : Nat) : Value := .complex .f32 (mz (1 + i)) 1065353216

theorem markComplex64S_own (w : World) (v : Value) (lo n : Nat) (xs : List Value) (h : w.ownsRow lo 66 1 v n xs) (hn : n ≤ 256) :
    Calls Tryd.prog 36 #[v, .int .i64 1] w (fun e w' => e = .returned (.int .i64 (1 + n)) ∧ w'.ownsRow lo 66 1 v n (mkL (Mc) xs n) ∧ w.grownBy w' v.ownBlock) := by
  have hx := h.1
  rw [Nat.mul_one] at hx
  rcases h.2 with ⟨rfl, rfl⟩ | ⟨g, cap, cur, rfl, hlo, hg, hnc, hcm, _⟩
  · have H := Lib.hid h; clear h hx
    go_enter Tryd.func36, Tryd.ntmps36
    go_wp2_with fail
    go_loopw [1, 5] (fun k i wr => k = .int .i64 1 ∧ i = .int .i64 0 ∧ wr = w) (fun _ _ _ => 0)
    case atStart => exact ⟨rfl, rfl, rfl⟩
    case round =>
      obtain ⟨rfl, rfl, rfl⟩ := hrel
      go_wp2
      go_ret
      exact ⟨by simp, H.out, gb_refl _ _⟩
  · have H := Lib.hid h; have HX := Lib.hid hx; have HLO := Lib.hid hlo
    unfold maxLen at hcm
    clear h hx hg hlo
    have hn' : (n : Int) ≤ 256 := by omega
    go_enter Tryd.func36, Tryd.ntmps36
    go_wp2_with fail
    go_loopw [1, 5] (fun k i wr => ∃ j : Nat, j ≤ n ∧ k = .int .i64 (1 + j) ∧ i = .int .i64 j ∧ wr.ownsRow lo 66 1 (.slice (some ⟨g, 0, none⟩) n cap) n (mkL (Mc) xs j) ∧ w.grownBy wr (some g)) (fun _ i _ => n - (intOf i).toNat)
    case atStart => exact ⟨0, Nat.zero_le _, by simp, rfl, H.out, gb_refl _ _⟩
    case round =>
      obtain ⟨j, hj, rfl, rfl, hown, hgr⟩ := hrel
      by_cases hlt : j < n
      · obtain ⟨u, hu⟩ : ∃ u, (mkL (Mc) xs j)[j]? = some u := by
          rw [mkL_get _ _ _ _ (by rw [HX.out]; exact hlt), if_neg (Nat.lt_irrefl _)]
          exact ⟨_, List.getElem?_eq_getElem (by rw [HX.out]; exact hlt)⟩
        have ho : wr.cell? ⟨g, j, none⟩ = some u := (hown.cellAt j (by omega)).trans hu
        have hf : wr.frozen? ⟨g, j, none⟩ = false := hown.frozenAt j
        have hst := hown.stored j (Mc j)
        obtain ⟨Z, hZ⟩ : ∃ Z, floatOfInt .f64 (1 + (j : Int)) = Z := ⟨_, rfl⟩
        obtain ⟨z, hz⟩ : ∃ z, mz (1 + j) = z := ⟨_, rfl⟩
        have hcv := fun w => mz_cv (j := j) (by omega) w
        have hcd := mz_cd (j := j) (by omega)
        have hcv1 := one_cv
        have hcd1 := one_cd
        rw [hZ, hz] at hcv
        rw [hZ] at hcd
        have hMc : Mc j = .complex .f32 z 1065353216 := by rw [Mc, hz]
        rw [hMc] at hst
        have HMK : Hid (mkL Mc xs (j + 1) = (mkL Mc xs j).set j (.complex .f32 z 1065353216)) := Lib.hid (by rw [mkL, hMc])
        have HS := Lib.hid (show _ ∧ _ from ⟨hst.1, gb_trans hgr (gb_set wr g j (.complex .f32 z 1065353216))⟩)
        clear hst hown hgr hu
        have hlt' : (j : Int) < n := by omega
        go_wp2
        go_roundw
        case rel => exact ⟨j + 1, by omega, by go_num, by go_num, by rw [HMK.out]; exact HS.out.1, HS.out.2⟩
        case measure => simp [intOf]; omega
      · have hjn : j = n := by omega
        subst hjn
        have HS := Lib.hid (show _ ∧ _ from ⟨hown, hgr⟩)
        clear hown hgr
        go_wp2
        go_ret
        exact ⟨rfl, HS.out.1, HS.out.2⟩

theorem heldComplex64S_own (w : World) (v : Value) (lo n : Nat) (xs : List Value) (h : w.ownsRow lo 66 1 v n xs) (hm : ∀ i, i < n → xs[i]? = some (Mc i)) (hn : n ≤ 256) :
    Calls Tryd.prog 37 #[v, .int .i64 1] w (Ret (.int .i64 (1 + n)) w) := by
  rcases h.2 with ⟨rfl, rfl⟩ | ⟨g, cap, cur, rfl, hlo, hg, hnc, hcm, _⟩
  · clear h hm
    go_enter Tryd.func37, Tryd.ntmps37
    go_wp2_with fail
    go_loopw [1, 5] (fun k i wr => k = .int .i64 1 ∧ i = .int .i64 0 ∧ wr = w) (fun _ _ _ => 0)
    case atStart => exact ⟨rfl, rfl, rfl⟩
    case round =>
      obtain ⟨rfl, rfl, rfl⟩ := hrel
      go_wp2
      go_ret
      exact .mk' 0 (by simp) rfl
  · have H := Lib.hid h; have HM := Lib.hid hm
    unfold maxLen at hcm
    clear h hm hg hlo
    have hn' : (n : Int) ≤ 256 := by omega
    go_enter Tryd.func37, Tryd.ntmps37
    go_wp2_with fail
    go_loopw [1, 5] (fun k i wr => ∃ j m : Nat, j ≤ n ∧ k = .int .i64 (1 + j) ∧ i = .int .i64 j ∧ wr = w.drewN m) (fun _ i _ => n - (intOf i).toNat)
    case atStart => exact ⟨0, 0, Nat.zero_le _, by simp, rfl, rfl⟩
    case round =>
      obtain ⟨j, m, hj, rfl, rfl, rfl⟩ := hrel
      by_cases hlt : j < n
      · obtain ⟨Z, hZ⟩ : ∃ Z, floatOfInt .f64 (1 + (j : Int)) = Z := ⟨_, rfl⟩
        obtain ⟨z, hz⟩ : ∃ z, mz (1 + j) = z := ⟨_, rfl⟩
        have hcv := fun w => mz_cv (j := j) (by omega) w
        have hcd := mz_cd (j := j) (by omega)
        have hcv1 := one_cv
        have hcd1 := one_cd
        have hor := (mz_ok ⟨1 + j, by omega⟩).2
        have hor1 := one_or
        simp only at hor
        rw [hz] at hor
        rw [hZ, hz] at hcv
        rw [hZ] at hcd
        have hMc : Mc j = .complex .f32 z 1065353216 := by rw [Mc, hz]
        have hc : w.cell? ⟨g, j, none⟩ = some (.complex .f32 z 1065353216) := by rw [← hMc]; exact (H.out.cellAt j (by omega)).trans (HM.out j hlt)
        have hlt' : (j : Int) < n := by omega
        go_wp2
        go_roundw
        case rel => exact ⟨j + 1, _, by omega, by go_num, by go_num, (by first | rfl | simp only [World.drewN_drewN])⟩
        case measure => simp [intOf]; omega
      · have hjn : j = n := by omega
        subst hjn
        go_wp2
        go_ret
        exact .mk' _ rfl rfl

end Go.Proofs.YtcaceplnlfmejaaDoor
