/- FromBits, StepApart and FlushNumber: the walks of the reference, of the program and of the laws. -/
import Derived.Test.YtdkgdinbglkjcaaWk3
namespace Go.Proofs.Ytdkgdinbglkjcaa
open Fl Go.RowKit

theorem sameFloat_w (a b : Nat) (h : cls .f32 a = cls .f32 b) (w1 w2 w : World) : Calls Try.prog 20 #[.float .f64 (cv .f32 a .f64 w1), .float .f64 (cv .f32 b .f64 w2)] w (Ret (.bool true) w) :=
  sameFloat_true _ _ (by rw [cls_widen, cls_widen, h]) w





/-- Are the edges fit? Is air apart? -/
def edges (u d : Nat) : Bool := finb FloatKind.f32.format u && finb FloatKind.f32.format d && !(FloatKind.f32.format.order d u == some .gt)
def apartOf (ap : Bool) (x u d : Nat) : Bool := (FloatKind.f32.format.order x u == some .gt) || (ap && !(FloatKind.f32.format.order x d == some .lt))

theorem edges_fin {u d : Nat} (h : edges u d = true) : finb FloatKind.f32.format u = true ∧ finb FloatKind.f32.format d = true := by
  unfold edges at h
  rw [Bool.and_eq_true, Bool.and_eq_true] at h
  exact h.1
theorem edges_gt {u d : Nat} (h : edges u d = true) : (FloatKind.f32.format.order d u == some .gt) = false := by
  unfold edges at h
  rw [Bool.and_eq_true] at h
  simpa using h.2
theorem step_fin {x u d : Nat} (hx : finb FloatKind.f32.format x = true) (he : edges u d = true) : [x, u, d].any notFin = false := by
  have h := edges_fin he
  simp [notFin, hx, h.1, h.2]
theorem step_gt {x u d : Nat} (h : (finb FloatKind.f32.format x && edges u d) = false) (hx : [x, u, d].any notFin = false) : (FloatKind.f32.format.order d u == some .gt) = true := by
  simp only [List.any_cons, List.any_nil, Bool.or_false, Bool.or_eq_false_iff, notFin, Bool.not_eq_false'] at hx
  unfold edges at h
  rw [hx.1, hx.2.1, hx.2.2] at h
  simpa using h

theorem spec_l02Edges (u d : Nat) (w : World) : Calls Try.prog 68 #[.float .f32 u, .float .f32 d] w (Ret (.bool (edges u d)) w) := by
  cases hu : finb FloatKind.f32.format u
  · have HU := Lib.hid hu; clear hu
    go_enter Try.func68, Try.ntmps68
    go_wp2_with (go_at_call 69; refine (spec_l01Finite _ _).mono ?_; rintro e w' ⟨rfl, n, rfl⟩; rw [HU.out])
    go_ret
    exact .mk' _ (bool_congr (by unfold edges; rw [HU.out]; rfl)) rfl
  · cases hd : finb FloatKind.f32.format d
    · have HU := Lib.hid hu; clear hu
      have HD := Lib.hid hd; clear hd
      go_enter Try.func68, Try.ntmps68
      go_wp2_with fail
      refine (spec_l01Finite _ _).mono ?_
      rintro e w' ⟨rfl, n, rfl⟩; rw [HU.out]
      go_wp2_with fail
      refine (spec_l01Finite _ _).mono ?_
      rintro e w' ⟨rfl, n', rfl⟩; rw [HD.out]
      go_wp2
      go_ret
      exact .mk' _ (bool_congr (by unfold edges; rw [HU.out, HD.out]; rfl)) rfl
    · have HE := Lib.hid (le_not_gt (finb_iff.1 hd) (finb_iff.1 hu))
      have HU := Lib.hid hu; clear hu
      have HD := Lib.hid hd; clear hd
      go_enter Try.func68, Try.ntmps68
      go_wp2_with fail
      refine (spec_l01Finite _ _).mono ?_
      rintro e w' ⟨rfl, n, rfl⟩; rw [HU.out]
      go_wp2_with fail
      refine (spec_l01Finite _ _).mono ?_
      rintro e w' ⟨rfl, n', rfl⟩; rw [HD.out]
      go_wp2
      go_ret
      exact .mk' _ (bool_congr (by unfold edges; rw [HU.out, HD.out]; exact HE.out.symm)) rfl

theorem spec_l02Apart (ap : Bool) (x u d : Nat) (hx : fin FloatKind.f32.format x) (hd : fin FloatKind.f32.format d) (w : World) : Calls Try.prog 70 #[.bool ap, .float .f32 x, .float .f32 u, .float .f32 d] w (Ret (.bool (apartOf ap x u d)) w) := by
  have HE := Lib.hid (ge_not_lt hx hd)
  clear hx hd
  cases hg : (FloatKind.f32.format.order x u == some .gt)
  · cases ap
    · have HA := Lib.hid (show apartOf false x u d = false by unfold apartOf; rw [hg]; rfl)
      go_enter Try.func70, Try.ntmps70
      go_wp2
      go_ret
      exact .mk' 0 (bool_congr HA.out.symm) rfl
    · have HA := Lib.hid (show apartOf true x u d = !(FloatKind.f32.format.order x d == some .lt) by unfold apartOf; rw [hg]; rfl)
      go_enter Try.func70, Try.ntmps70
      go_wp2
      go_ret
      exact .mk' 0 (bool_congr (by rw [HA.out]; exact HE.out.symm)) rfl
  · have HA := Lib.hid (show apartOf ap x u d = true by unfold apartOf; rw [hg]; rfl)
    go_enter Try.func70, Try.ntmps70
    go_wp2
    go_ret
    exact .mk' 0 (bool_congr HA.out.symm) rfl


theorem three_FS (x u d : Nat) (w : World) : FS (w.alloc (.cells #[.float .f32 x, .float .f32 u, .float .f32 d] 23)) (.slice (some ⟨w.heap.size, 0, none⟩) 3 3) [x, u, d] := by
  refine ⟨_, _, _, rfl, rfl, by decide, .inr ⟨_, _, rfl, by simp, fun i hi => ?_⟩⟩
  match i, hi with
  | 0, _ => simp [go_sem]
  | 1, _ => simp [go_sem]
  | 2, _ => simp [go_sem]
theorem impl_StepApart_no (ap : Bool) (x u d : Nat) (h : (finb FloatKind.f32.format x && edges u d) = false) (w : World) : Calls Try.prog 71 #[.bool ap, .float .f32 x, .float .f32 u, .float .f32 d] w (RetB (.tuple #[.bool false, .bool false]) w) := by
  cases hx : [x, u, d].any notFin
  · have hg : (FloatKind.f32.format.order d u == some .gt) = true := step_gt h hx
    have HX := Lib.hid hx; clear hx h
    go_enter Try.func71, Try.ntmps71
    go_wp2_with (go_at_call 65; refine (impl_areFinite _ _ [x, u, d] (three_FS _ _ _ _)).mono ?_; rintro e w' ⟨rfl, n, rfl⟩; rw [HX.out])
    go_ret2
    exact .mk' rfl (below_dn ((Below.refl _ _).alloc (Nat.le_refl _) _) _)
  · have HX := Lib.hid hx; clear hx h
    go_enter Try.func71, Try.ntmps71
    go_wp2_with (go_at_call 65; refine (impl_areFinite _ _ [x, u, d] (three_FS _ _ _ _)).mono ?_; rintro e w' ⟨rfl, n, rfl⟩; rw [HX.out])
    go_ret2
    exact .mk' rfl (below_dn ((Below.refl _ _).alloc (Nat.le_refl _) _) _)
theorem impl_StepApart_yes (ap : Bool) (x u d : Nat) (hx : finb FloatKind.f32.format x = true) (he : edges u d = true) (w : World) : Calls Try.prog 71 #[.bool ap, .float .f32 x, .float .f32 u, .float .f32 d] w (RetB (.tuple #[.bool (apartOf ap x u d), .bool true]) w) := by
  have hany : [x, u, d].any notFin = false := step_fin hx he
  have hg : (FloatKind.f32.format.order d u == some .gt) = false := (edges_gt he)
  have HX := Lib.hid hany; clear hany hx he
  cases h1 : (FloatKind.f32.format.order x u == some .gt)
  · cases ap
    · have HA := Lib.hid (show apartOf false x u d = false by unfold apartOf; rw [h1]; rfl)
      go_enter Try.func71, Try.ntmps71
      go_wp2_with (go_at_call 65; refine (impl_areFinite _ _ [x, u, d] (three_FS _ _ _ _)).mono ?_; rintro e w' ⟨rfl, n, rfl⟩; rw [HX.out])
      go_ret2
      exact .mk' (by rw [HA.out]; rfl) (below_dn ((Below.refl _ _).alloc (Nat.le_refl _) _) _)
    · have HA := Lib.hid (show apartOf true x u d = !(FloatKind.f32.format.order x d == some .lt) by unfold apartOf; rw [h1]; rfl)
      go_enter Try.func71, Try.ntmps71
      go_wp2_with (go_at_call 65; refine (impl_areFinite _ _ [x, u, d] (three_FS _ _ _ _)).mono ?_; rintro e w' ⟨rfl, n, rfl⟩; rw [HX.out])
      go_ret2
      exact .mk' (by rw [HA.out]; rfl) (below_dn ((Below.refl _ _).alloc (Nat.le_refl _) _) _)
  · have HA := Lib.hid (show apartOf ap x u d = true by unfold apartOf; rw [h1]; rfl)
    go_enter Try.func71, Try.ntmps71
    go_wp2_with (go_at_call 65; refine (impl_areFinite _ _ [x, u, d] (three_FS _ _ _ _)).mono ?_; rintro e w' ⟨rfl, n, rfl⟩; rw [HX.out])
    go_ret2
    exact .mk' (by rw [HA.out]; rfl) (below_dn ((Below.refl _ _).alloc (Nat.le_refl _) _) _)







end Go.Proofs.Ytdkgdinbglkjcaa
