/- FromBits, StepApart and FlushNumber: the walks of the reference, of the program and of the laws. -/
import Derived.Test.YtjpbimfnppmbcaaWk3
namespace Go.Proofs.Ytjpbimfnppmbcaa
open Fl Go.RowKit

theorem sameFloat_w (a b : Nat) (h : cls .f32 a = cls .f32 b) (w1 w2 w : World) : Calls Try.prog 15 #[.float .f64 (cv .f32 a .f64 w1), .float .f64 (cv .f32 b .f64 w2)] w (Ret (.bool true) w) :=
  sameFloat_true _ _ (by rw [cls_widen, cls_widen, h]) w

theorem spec_l01From (n : Int) (h0 : 0 ≤ n) (h1 : n ≤ 4294967295) (w : World) : Calls Try.prog 42 #[.int .i64 n] w (Ret (.float .f32 n.toNat) w) := by
  have k := f32from
  go_enter Try.func42, Try.ntmps42
  go_wp2
  go_ret
  exact .mk' 0 rfl rfl

theorem spec_FromBits_yes (n : Int) (h0 : 0 ≤ n) (h1 : n ≤ 4294967295) (w : World) : Calls Try.prog 13 #[.int .i64 n] w (Ret (.tuple #[.float .f32 n.toNat, .bool true]) w) := by
  go_enter Try.func13, Try.ntmps13
  go_wp2_with (first | (go_at_call 41; refine (spec_l00In_yes _ _ _ h0 (by omega) _).mono ?_; rintro e w' ⟨rfl, m, rfl⟩) | (go_at_call 42; refine (spec_l01From _ h0 h1 _).mono ?_; rintro e w' ⟨rfl, m', rfl⟩))
  go_ret2
  exact .mk' _ rfl rfl
theorem spec_FromBits_no (n : Int) (h : n < 0 ∨ 4294967295 < n) (w : World) : Calls Try.prog 13 #[.int .i64 n] w (Ret (.tuple #[.float .f32 0, .bool false]) w) := by
  have H := Lib.hid h; clear h
  go_enter Try.func13, Try.ntmps13
  go_wp2_with (go_at_call 41; refine (spec_l00In_no _ _ _ H.out _).mono ?_; rintro e w' ⟨rfl, m, rfl⟩)
  go_ret2
  exact .mk' _ rfl rfl

theorem impl_FromBits_yes (n : Int) (h0 : 0 ≤ n) (h1 : n ≤ 4294967295) (w : World) : Calls Try.prog 14 #[.int .i64 n] w (Ret (.tuple #[.float .f32 n.toNat, .bool true]) w) := by
  have k := f32from
  go_enter Try.func14, Try.ntmps14
  go_wp2_with (go_at_call 43; refine (impl_within_yes _ _ _ h0 (by omega) _).mono ?_; rintro e w' ⟨rfl, m, rfl⟩)
  go_ret2
  exact .mk' _ rfl rfl
theorem impl_FromBits_no (n : Int) (h : n < 0 ∨ 4294967295 < n) (w : World) : Calls Try.prog 14 #[.int .i64 n] w (Ret (.tuple #[.float .f32 0, .bool false]) w) := by
  have H := Lib.hid h; clear h
  go_enter Try.func14, Try.ntmps14
  go_wp2_with (go_at_call 43; refine (impl_within_no _ _ _ H.out _).mono ?_; rintro e w' ⟨rfl, m, rfl⟩)
  go_ret2
  exact .mk' _ rfl rfl

theorem law_FromBits (n : Int) (w : World) : Calls Try.prog 3 #[.int .i64 n] w (Ret (.bool true) w) := by
  by_cases h : 0 ≤ n ∧ n ≤ 4294967295
  · obtain ⟨h0, h1⟩ := h
    go_enter Try.func3, Try.ntmps3
    go_wp2_with (first | (go_at_call 13; refine (spec_FromBits_yes _ h0 h1 _).mono ?_; rintro e w' ⟨rfl, m, rfl⟩) | (go_at_call 14; refine (impl_FromBits_yes _ h0 h1 _).mono ?_; rintro e w' ⟨rfl, m, rfl⟩) | (go_at_call 15; refine (sameFloat_w _ _ rfl _ _ _).mono ?_; rintro e w' ⟨rfl, m, rfl⟩))
    go_ret
    exact .mk' _ rfl rfl
  · have h' : n < 0 ∨ 4294967295 < n := by omega
    have H := Lib.hid h'; clear h h'
    go_enter Try.func3, Try.ntmps3
    go_wp2_with (first | (go_at_call 13; refine (spec_FromBits_no _ H.out _).mono ?_; rintro e w' ⟨rfl, m, rfl⟩) | (go_at_call 14; refine (impl_FromBits_no _ H.out _).mono ?_; rintro e w' ⟨rfl, m, rfl⟩) | (go_at_call 15; refine (sameFloat_w _ _ rfl _ _ _).mono ?_; rintro e w' ⟨rfl, m, rfl⟩))
    go_ret
    exact .mk' _ rfl rfl

/-- Are the edges fit? Is air apart? -/
def edges (u d : Nat) : Bool := finb FloatKind.f32.format u && finb FloatKind.f32.format d && !(FloatKind.f32.format.order d u == some .gt)
def apartOf (ap : Bool) (x u d : Nat) : Bool := (FloatKind.f32.format.order x u == some .gt) || (ap && !(FloatKind.f32.format.order x d == some .lt))

theorem edges_fin {u d : Nat} (h : edges u d = true) : finb FloatKind.f32.format u = true ∧ finb FloatKind.f32.format d = true := by
  unfold edges at h
  rw [Bool.and_eq_true, Bool.and_eq_true] at h
  exact h.1
theorem edges_gt {u d : Nat} (h : edges u d = true) : (FloatKind.f32.format.order d u == some .gt) = false := by
  unfold edges at h
  rw [Bool.and_eq_true] at h
  simpa using h.2
theorem step_fin {x u d : Nat} (hx : finb FloatKind.f32.format x = true) (he : edges u d = true) : [x, u, d].any notFin = false := by
  have h := edges_fin he
  simp [notFin, hx, h.1, h.2]
theorem step_gt {x u d : Nat} (h : (finb FloatKind.f32.format x && edges u d) = false) (hx : [x, u, d].any notFin = false) : (FloatKind.f32.format.order d u == some .gt) = true := by
  simp only [List.any_cons, List.any_nil, Bool.or_false, Bool.or_eq_false_iff, notFin, Bool.not_eq_false'] at hx
  unfold edges at h
  rw [hx.1, hx.2.1, hx.2.2] at h
  simpa using h

theorem spec_l02Edges (u d : Nat) (w : World) : Calls Try.prog 46 #[.float .f32 u, .float .f32 d] w (Ret (.bool (edges u d)) w) := by
  cases hu : finb FloatKind.f32.format u
  · have HU := Lib.hid hu; clear hu
    go_enter Try.func46, Try.ntmps46
    go_wp2_with (go_at_call 45; refine (spec_l01Finite _ _).mono ?_; rintro e w' ⟨rfl, n, rfl⟩; rw [HU.out])
    go_ret
    exact .mk' _ (bool_congr (by unfold edges; rw [HU.out]; rfl)) rfl
  · cases hd : finb FloatKind.f32.format d
    · have HU := Lib.hid hu; clear hu
      have HD := Lib.hid hd; clear hd
      go_enter Try.func46, Try.ntmps46
      go_wp2_with fail
      refine (spec_l01Finite _ _).mono ?_
      rintro e w' ⟨rfl, n, rfl⟩; rw [HU.out]
      go_wp2_with fail
      refine (spec_l01Finite _ _).mono ?_
      rintro e w' ⟨rfl, n', rfl⟩; rw [HD.out]
      go_wp2
      go_ret
      exact .mk' _ (bool_congr (by unfold edges; rw [HU.out, HD.out]; rfl)) rfl
    · have HE := Lib.hid (le_not_gt (finb_iff.1 hd) (finb_iff.1 hu))
      have HU := Lib.hid hu; clear hu
      have HD := Lib.hid hd; clear hd
      go_enter Try.func46, Try.ntmps46
      go_wp2_with fail
      refine (spec_l01Finite _ _).mono ?_
      rintro e w' ⟨rfl, n, rfl⟩; rw [HU.out]
      go_wp2_with fail
      refine (spec_l01Finite _ _).mono ?_
      rintro e w' ⟨rfl, n', rfl⟩; rw [HD.out]
      go_wp2
      go_ret
      exact .mk' _ (bool_congr (by unfold edges; rw [HU.out, HD.out]; exact HE.out.symm)) rfl

theorem spec_l02Apart (ap : Bool) (x u d : Nat) (hx : fin FloatKind.f32.format x) (hd : fin FloatKind.f32.format d) (w : World) : Calls Try.prog 47 #[.bool ap, .float .f32 x, .float .f32 u, .float .f32 d] w (Ret (.bool (apartOf ap x u d)) w) := by
  have HE := Lib.hid (ge_not_lt hx hd)
  clear hx hd
  cases hg : (FloatKind.f32.format.order x u == some .gt)
  · cases ap
    · have HA := Lib.hid (show apartOf false x u d = false by unfold apartOf; rw [hg]; rfl)
      go_enter Try.func47, Try.ntmps47
      go_wp2
      go_ret
      exact .mk' 0 (bool_congr HA.out.symm) rfl
    · have HA := Lib.hid (show apartOf true x u d = !(FloatKind.f32.format.order x d == some .lt) by unfold apartOf; rw [hg]; rfl)
      go_enter Try.func47, Try.ntmps47
      go_wp2
      go_ret
      exact .mk' 0 (bool_congr (by rw [HA.out]; exact HE.out.symm)) rfl
  · have HA := Lib.hid (show apartOf ap x u d = true by unfold apartOf; rw [hg]; rfl)
    go_enter Try.func47, Try.ntmps47
    go_wp2
    go_ret
    exact .mk' 0 (bool_congr HA.out.symm) rfl

theorem spec_StepApart_no (ap : Bool) (x u d : Nat) (h : (finb FloatKind.f32.format x && edges u d) = false) (w : World) : Calls Try.prog 16 #[.bool ap, .float .f32 x, .float .f32 u, .float .f32 d] w (Ret (.tuple #[.bool false, .bool false]) w) := by
  cases hx : finb FloatKind.f32.format x
  · have HX := Lib.hid hx; clear hx h
    go_enter Try.func16, Try.ntmps16
    go_wp2_with (go_at_call 45; refine (spec_l01Finite _ _).mono ?_; rintro e w' ⟨rfl, n, rfl⟩; rw [HX.out])
    go_ret2
    exact .mk' _ rfl rfl
  · have HE := Lib.hid (show edges u d = false by rw [hx] at h; exact h)
    have HX := Lib.hid hx; clear hx h
    go_enter Try.func16, Try.ntmps16
    go_wp2_with (first | (go_at_call 45; refine (spec_l01Finite _ _).mono ?_; rintro e w' ⟨rfl, n, rfl⟩; rw [HX.out]) | (go_at_call 46; refine (spec_l02Edges _ _ _).mono ?_; rintro e w' ⟨rfl, n', rfl⟩; rw [HE.out]))
    go_ret2
    exact .mk' _ rfl rfl
theorem spec_StepApart_yes (ap : Bool) (x u d : Nat) (hx : finb FloatKind.f32.format x = true) (he : edges u d = true) (w : World) : Calls Try.prog 16 #[.bool ap, .float .f32 x, .float .f32 u, .float .f32 d] w (Ret (.tuple #[.bool (apartOf ap x u d), .bool true]) w) := by
  have hd : fin FloatKind.f32.format d := finb_iff.1 (edges_fin he).2
  have hx' := finb_iff.1 hx
  have HE := Lib.hid he; clear he
  have HX := Lib.hid hx; clear hx
  go_enter Try.func16, Try.ntmps16
  go_wp2_with (first | (go_at_call 45; refine (spec_l01Finite _ _).mono ?_; rintro e w' ⟨rfl, n, rfl⟩; rw [HX.out]) | (go_at_call 46; refine (spec_l02Edges _ _ _).mono ?_; rintro e w' ⟨rfl, n', rfl⟩; rw [HE.out]) | (go_at_call 47; refine (spec_l02Apart _ _ _ _ hx' hd _).mono ?_; rintro e w' ⟨rfl, n', rfl⟩))
  go_ret2
  exact .mk' _ rfl rfl

theorem three_FS (x u d : Nat) (w : World) : FS (w.alloc (.cells #[.float .f32 x, .float .f32 u, .float .f32 d] 22)) (.slice (some ⟨w.heap.size, 0, none⟩) 3 3) [x, u, d] := by
  refine ⟨_, _, _, rfl, rfl, by decide, .inr ⟨_, _, rfl, by simp, fun i hi => ?_⟩⟩
  match i, hi with
  | 0, _ => simp [go_sem]
  | 1, _ => simp [go_sem]
  | 2, _ => simp [go_sem]
theorem impl_StepApart_no (ap : Bool) (x u d : Nat) (h : (finb FloatKind.f32.format x && edges u d) = false) (w : World) : Calls Try.prog 17 #[.bool ap, .float .f32 x, .float .f32 u, .float .f32 d] w (RetB (.tuple #[.bool false, .bool false]) w) := by
  cases hx : [x, u, d].any notFin
  · have hg : (FloatKind.f32.format.order d u == some .gt) = true := step_gt h hx
    have HX := Lib.hid hx; clear hx h
    go_enter Try.func17, Try.ntmps17
    go_wp2_with (go_at_call 48; refine (impl_areFinite _ _ [x, u, d] (three_FS _ _ _ _)).mono ?_; rintro e w' ⟨rfl, n, rfl⟩; rw [HX.out])
    go_ret2
    exact .mk' rfl (below_dn ((Below.refl _ _).alloc (Nat.le_refl _) _) _)
  · have HX := Lib.hid hx; clear hx h
    go_enter Try.func17, Try.ntmps17
    go_wp2_with (go_at_call 48; refine (impl_areFinite _ _ [x, u, d] (three_FS _ _ _ _)).mono ?_; rintro e w' ⟨rfl, n, rfl⟩; rw [HX.out])
    go_ret2
    exact .mk' rfl (below_dn ((Below.refl _ _).alloc (Nat.le_refl _) _) _)
theorem impl_StepApart_yes (ap : Bool) (x u d : Nat) (hx : finb FloatKind.f32.format x = true) (he : edges u d = true) (w : World) : Calls Try.prog 17 #[.bool ap, .float .f32 x, .float .f32 u, .float .f32 d] w (RetB (.tuple #[.bool (apartOf ap x u d), .bool true]) w) := by
  have hany : [x, u, d].any notFin = false := step_fin hx he
  have hg : (FloatKind.f32.format.order d u == some .gt) = false := (edges_gt he)
  have HX := Lib.hid hany; clear hany hx he
  cases h1 : (FloatKind.f32.format.order x u == some .gt)
  · cases ap
    · have HA := Lib.hid (show apartOf false x u d = false by unfold apartOf; rw [h1]; rfl)
      go_enter Try.func17, Try.ntmps17
      go_wp2_with (go_at_call 48; refine (impl_areFinite _ _ [x, u, d] (three_FS _ _ _ _)).mono ?_; rintro e w' ⟨rfl, n, rfl⟩; rw [HX.out])
      go_ret2
      exact .mk' (by rw [HA.out]; rfl) (below_dn ((Below.refl _ _).alloc (Nat.le_refl _) _) _)
    · have HA := Lib.hid (show apartOf true x u d = !(FloatKind.f32.format.order x d == some .lt) by unfold apartOf; rw [h1]; rfl)
      go_enter Try.func17, Try.ntmps17
      go_wp2_with (go_at_call 48; refine (impl_areFinite _ _ [x, u, d] (three_FS _ _ _ _)).mono ?_; rintro e w' ⟨rfl, n, rfl⟩; rw [HX.out])
      go_ret2
      exact .mk' (by rw [HA.out]; rfl) (below_dn ((Below.refl _ _).alloc (Nat.le_refl _) _) _)
  · have HA := Lib.hid (show apartOf ap x u d = true by unfold apartOf; rw [h1]; rfl)
    go_enter Try.func17, Try.ntmps17
    go_wp2_with (go_at_call 48; refine (impl_areFinite _ _ [x, u, d] (three_FS _ _ _ _)).mono ?_; rintro e w' ⟨rfl, n, rfl⟩; rw [HX.out])
    go_ret2
    exact .mk' (by rw [HA.out]; rfl) (below_dn ((Below.refl _ _).alloc (Nat.le_refl _) _) _)

theorem law_StepApart (ap : Bool) (x u d : Nat) (w : World) : Calls Try.prog 4 #[.bool ap, .float .f32 x, .float .f32 u, .float .f32 d] w (RetB (.bool true) w) := by
  cases h : (finb FloatKind.f32.format x && edges u d)
  · have H := Lib.hid h; clear h
    go_enter Try.func4, Try.ntmps4
    go_wp2_with (first | (go_at_call 16; refine (spec_StepApart_no _ _ _ _ H.out _).mono ?_; rintro e w' ⟨rfl, m, rfl⟩) | (go_at_call 17; refine (impl_StepApart_no _ _ _ _ H.out _).mono ?_; rintro e w' ⟨rfl, hb⟩))
    go_ret
    exact .mk' rfl ((below_dn (Below.refl _ _) _).trans hb)
  · rw [Bool.and_eq_true] at h
    have H1 := Lib.hid h.1
    have H2 := Lib.hid h.2
    clear h
    go_enter Try.func4, Try.ntmps4
    go_wp2_with (first | (go_at_call 16; refine (spec_StepApart_yes _ _ _ _ H1.out H2.out _).mono ?_; rintro e w' ⟨rfl, m, rfl⟩) | (go_at_call 17; refine (impl_StepApart_yes _ _ _ _ H1.out H2.out _).mono ?_; rintro e w' ⟨rfl, hb⟩))
    go_ret
    exact .mk' rfl ((below_dn (Below.refl _ _) _).trans hb)

theorem math_Copysign0 (y : Nat) (hy : W64 y) (w : World) : Calls Try.prog 51 #[.float .f64 0, .float .f64 y] w (Ret (.float .f64 (sg64 (ng FloatKind.f64.format y))) w) := by
  have hb' := hy.le
  have k := f64bits
  have k0 : ∀ w : World, (callFunc 76 #[.float .f64 0]).run Try.prog w = .ok (.value (.int .u64 0)) w := fun w => f64bits 0 w
  have k2 := f64from
  go_enter Try.func51, Try.ntmps51
  go_wp2
  go_ret
  exact .mk' 0 (float_congr (copysign_sg hy)) rfl

theorem impl_FlushNumber (b : Nat) (hw : W32 b) (w : World) : Calls Try.prog 19 #[.float .f32 b] w (Ret (.float .f32 (flush b)) w) := by
  cases hs : sub b
  · have HF := Lib.hid (flush_not hw hs)
    have HS := Lib.hid hs; clear hs
    go_enter Try.func19, Try.ntmps19
    go_wp2_with (go_at_call 50; refine (impl_IsSubnormal _ hw _).mono ?_; rintro e w' ⟨rfl, n, rfl⟩; rw [HS.out])
    go_ret
    exact .mk' _ (float_congr HF.out.symm) rfl
  · have HF := Lib.hid (flush_sg hs)
    have HN := Lib.hid (sub_not_nan hs)
    have HS := Lib.hid hs; clear hs
    go_enter Try.func19, Try.ntmps19
    go_wp2_with (first | (go_at_call 50; refine (impl_IsSubnormal _ hw _).mono ?_; rintro e w' ⟨rfl, n, rfl⟩; rw [HS.out]) | (go_at_call 51; refine (math_Copysign0 _ (cv_wide_lt _ _) _).mono ?_; rintro e w' ⟨rfl, n', rfl⟩))
    go_ret
    exact .mk' _ (float_congr (by rw [HF.out]; exact (narrow_sg _ _).trans (by rw [ng_wide HN.out]))) rfl

theorem spec_l01Flush (b : Nat) (hw : W32 b) (w : World) : Calls Try.prog 49 #[.float .f32 b] w (Ret (.float .f32 (flush b)) w) := by
  by_cases h : rung Ieee.single b < 8388608
  · have HB := Lib.hid (mask_bt hw)
    have HM := Lib.hid (show (bits .and .i64 (bt b) 2139095040 == 0) = true by rw [HB.out]; exact decide_eq_true h)
    have HS := Lib.hid (sign_sg hw h)
    have HF := Lib.hid (flush_low h)
    clear h
    obtain ⟨h0, h1⟩ := bt_range hw
    go_enter Try.func49, Try.ntmps49
    go_wp2_with fail
    refine (spec_l01Bits _ hw _).mono ?_
    rintro e w' ⟨rfl, n, rfl⟩
    have hm := HM.out
    go_wp2_with fail
    rw [HS.out]
    refine (spec_l01From _ (sg32_le _).1 (sg32_le _).2 _).mono ?_
    rintro e w' ⟨rfl, n', rfl⟩
    go_wp2
    go_ret
    exact .mk' _ (float_congr HF.out.symm) rfl
  · have HB := Lib.hid (mask_bt hw)
    have HM := Lib.hid (show (bits .and .i64 (bt b) 2139095040 == 0) = false by rw [HB.out]; exact decide_eq_false h)
    have HF := Lib.hid (show flush b = b by unfold flush; rw [if_neg h])
    clear h
    go_enter Try.func49, Try.ntmps49
    go_wp2_with fail
    refine (spec_l01Bits _ hw _).mono ?_
    rintro e w' ⟨rfl, n, rfl⟩
    have hm := HM.out
    go_wp2
    go_ret
    exact .mk' _ (float_congr HF.out.symm) rfl

theorem spec_FlushNumber (b : Nat) (hw : W32 b) (w : World) : Calls Try.prog 18 #[.float .f32 b] w (Ret (.float .f32 (flush b)) w) := by
  go_enter Try.func18, Try.ntmps18
  go_wp2_with (go_at_call 49; refine (spec_l01Flush _ hw _).mono ?_; rintro e w' ⟨rfl, n, rfl⟩)
  go_ret
  exact .mk' _ rfl rfl

theorem law_FlushNumber (b : Nat) (hw : W32 b) (w : World) : Calls Try.prog 5 #[.float .f32 b] w (Ret (.bool true) w) := by
  go_enter Try.func5, Try.ntmps5
  go_wp2_with (first | (go_at_call 18; refine (spec_FlushNumber _ hw _).mono ?_; rintro e w' ⟨rfl, m, rfl⟩) | (go_at_call 19; refine (impl_FlushNumber _ hw _).mono ?_; rintro e w' ⟨rfl, m, rfl⟩) | (go_at_call 15; refine (sameFloat_w _ _ rfl _ _ _).mono ?_; rintro e w' ⟨rfl, m, rfl⟩))
  go_ret
  exact .mk' _ rfl rfl

end Go.Proofs.Ytjpbimfnppmbcaa
