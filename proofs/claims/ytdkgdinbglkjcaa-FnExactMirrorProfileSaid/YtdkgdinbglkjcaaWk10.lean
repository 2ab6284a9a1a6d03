/- Whether a struct of three lists is a valid profile. -/
import Derived.Test.YtdkgdinbglkjcaaWk9
namespace Go.Proofs.Ytdkgdinbglkjcaa
open Fl Go.RowKit

/-- x ≤ y? From low to high? -/
def leB (x y : Nat) : Bool := FloatKind.f32.format.order x y == some .lt || FloatKind.f32.format.order x y == some .eq
def geB (x y : Nat) : Bool := FloatKind.f32.format.order x y == some .gt || FloatKind.f32.format.order x y == some .eq
def inB (x lo hi : Nat) : Bool := geB x lo && leB x hi
def angB (x : Nat) : Bool := inB x 3204448256 1056964608
/-- Is the knot k as it should be? -/
def okK (A L D : List Nat) (k : Nat) : Bool := angB (A.getD k 0) && (!(decide (0 < k) && leB (A.getD k 0) (A.getD (k - 1) 0)) && (!notFin (L.getD k 0) && !notLeast (D.getD k 0)))
def sizesB (A L D : List Nat) : Bool := decide (2 ≤ A.length ∧ A.length ≤ 24 ∧ L.length = A.length ∧ D.length = A.length)
def validB (A L D : List Nat) : Bool := sizesB A L D && (List.range A.length).all (okK A L D)
theorem validB_sizes {A L D : List Nat} (h : sizesB A L D = false) : validB A L D = false := by unfold validB; rw [h]; rfl
theorem validB_no {A L D : List Nat} {k : Nat} (hk : k < A.length) (h : okK A L D k = false) : validB A L D = false := by
  unfold validB
  have : (List.range A.length).all (okK A L D) = false := by
    rw [List.all_eq_false]
    exact ⟨k, List.mem_range.2 hk, by rw [h]; simp⟩
  rw [this, Bool.and_false]
theorem validB_yes {A L D : List Nat} (hs : sizesB A L D = true) (h : ∀ i, i < A.length → okK A L D i = true) : validB A L D = true := by
  unfold validB
  rw [hs, Bool.true_and, List.all_eq_true]
  exact fun i hi => h i (List.mem_range.1 hi)
theorem okK_step {A L D : List Nat} {k : Nat} (h : ∀ j, j < k → okK A L D j = true) (h' : okK A L D k = true) : ∀ j, j < k + 1 → okK A L D j = true := fun j hj => by
  rcases Nat.lt_or_ge j k with q | q
  · exact h j q
  · have : j = k := by omega
    subst this; exact h'
theorem sizes_spec {A L D : List Nat} (h : sizesB A L D = true) : 2 ≤ A.length ∧ A.length ≤ 24 ∧ L.length = A.length ∧ D.length = A.length := by simpa [sizesB] using h
theorem valid_sizes {A L D : List Nat} (h : validB A L D = true) : sizesB A L D = true := by unfold validB at h; rw [Bool.and_eq_true] at h; exact h.1
theorem valid_ok {A L D : List Nat} (h : validB A L D = true) {k : Nat} (hk : k < A.length) : okK A L D k = true := by
  unfold validB at h; rw [Bool.and_eq_true, List.all_eq_true] at h; exact h.2 k (List.mem_range.2 hk)
theorem okK_ang {A L D : List Nat} {k : Nat} (h : okK A L D k = true) : angB (A.getD k 0) = true := by unfold okK at h; simp only [Bool.and_eq_true] at h; exact h.1
theorem okK_lift {A L D : List Nat} {k : Nat} (h : okK A L D k = true) : notFin (L.getD k 0) = false := by unfold okK at h; simp only [Bool.and_eq_true, Bool.not_eq_true'] at h; exact h.2.2.1
theorem okK_drag {A L D : List Nat} {k : Nat} (h : okK A L D k = true) : notLeast (D.getD k 0) = false := by unfold okK at h; simp only [Bool.and_eq_true, Bool.not_eq_true'] at h; exact h.2.2.2
theorem okK_up {A L D : List Nat} {k : Nat} (h : okK A L D (k + 1) = true) : leB (A.getD (k + 1) 0) (A.getD k 0) = false := by
  unfold okK at h; simp only [Bool.and_eq_true, Bool.not_eq_true'] at h
  have := h.2.1
  simpa using this

theorem impl_isFromTo (x lo hi : Nat) (w : World) : Calls Try.prog 67 #[.float .f32 x, .float .f32 lo, .float .f32 hi] w (Ret (.bool (inB x lo hi)) w) := by
  cases hg : (FloatKind.f32.format.order x lo == some .gt || FloatKind.f32.format.order x lo == some .eq)
  · have H := Lib.hid (show inB x lo hi = false by unfold inB geB; rw [hg]; rfl)
    go_enter Try.func67, Try.ntmps67
    go_wp2
    go_ret
    exact .mk' 0 (bool_congr H.out.symm) rfl
  · have H := Lib.hid (show inB x lo hi = leB x hi by unfold inB geB; rw [hg]; rfl)
    go_enter Try.func67, Try.ntmps67
    go_wp2
    go_ret
    exact .mk' 0 (bool_congr (by rw [H.out]; rfl)) rfl

theorem spec_l02Least (b : Nat) (w : World) : Calls Try.prog 91 #[.float .f32 b] w (Ret (.bool (!notLeast b)) w) := by
  cases hf : finb FloatKind.f32.format b
  · have H := Lib.hid hf; clear hf
    go_enter Try.func91, Try.ntmps91
    go_wp2_with (go_at_call 69; refine (spec_l01Finite _ _).mono ?_; rintro e w' ⟨rfl, n, rfl⟩; rw [H.out])
    go_ret
    exact .mk' _ (bool_congr (by unfold notLeast; rw [H.out]; rfl)) rfl
  · have H := Lib.hid hf; clear hf
    go_enter Try.func91, Try.ntmps91
    go_wp2_with (go_at_call 69; refine (spec_l01Finite _ _).mono ?_; rintro e w' ⟨rfl, n, rfl⟩; rw [H.out])
    go_ret
    exact .mk' _ (bool_congr (by unfold notLeast; rw [H.out, Bool.not_not]; rfl)) rfl

theorem spec_l02Is_sizes (w : World) (p : Nat) (a l d : Value) (A L D : List Nat) (hp : Blk w p #[a, l, d] 36)
    (fa : FS w a A) (fl : FS w l L) (fd : FS w d D) (hs : sizesB A L D = false) :
    Calls Try.prog 64 #[.pointer (some ⟨p, 0, none⟩)] w (Ret (.bool false) w) := by
  obtain ⟨a1, a2, a3, rfl⟩ := fa.shape
  obtain ⟨l1, l2, l3, rfl⟩ := fl.shape
  obtain ⟨d1, d2, d3, rfl⟩ := fd.shape
  obtain ⟨rfl, ma, _⟩ := fa.at
  obtain ⟨rfl, ml, _⟩ := fl.at
  obtain ⟨rfl, md, _⟩ := fd.at
  unfold maxLen at ma ml md
  have k0 : w.cell? ⟨p, 0, none⟩ = some (.slice a1 A.length a3) := hp.cell 0
  have k1 : w.cell? ⟨p, 1, none⟩ = some (.slice l1 L.length l3) := hp.cell 1
  have k2 : w.cell? ⟨p, 2, none⟩ = some (.slice d1 D.length d3) := hp.cell 2
  clear fa fl fd hp
  have hs' : ¬ ((2:Int) ≤ A.length ∧ (A.length:Int) ≤ 24 ∧ (L.length:Int) = A.length ∧ (D.length:Int) = A.length) := by
    intro ⟨q1, q2, q3, q4⟩
    have : sizesB A L D = true := by unfold sizesB; rw [decide_eq_true_eq]; omega
    rw [this] at hs; cases hs
  clear hs
  by_cases c1 : (A.length : Int) < 2
  · clear hs'
    go_enter Try.func64, Try.ntmps64
    go_wp2
    go_ret
    exact .mk' 0 rfl rfl
  · by_cases c2 : (24 : Int) < A.length
    · clear hs'
      go_enter Try.func64, Try.ntmps64
      go_wp2
      go_ret
      exact .mk' 0 rfl rfl
    · cases c3 : ((L.length : Int) != A.length)
      · cases c4 : ((D.length : Int) != A.length)
        · rw [bne_eq_false_iff_eq] at c3 c4
          omega
        · clear hs'
          go_enter Try.func64, Try.ntmps64
          go_wp2
          go_ret
          exact .mk' 0 rfl rfl
      · clear hs'
        go_enter Try.func64, Try.ntmps64
        go_wp2
        go_ret
        exact .mk' 0 rfl rfl

set_option maxRecDepth 8000 in
set_option maxHeartbeats 1600000 in
theorem spec_l02Is (w : World) (p : Nat) (a l d : Value) (A L D : List Nat) (hp : Blk w p #[a, l, d] 36)
    (fa : FS w a A) (fl : FS w l L) (fd : FS w d D) :
    Calls Try.prog 64 #[.pointer (some ⟨p, 0, none⟩)] w (Ret (.bool (validB A L D)) w) := by
  cases hs : sizesB A L D
  · rw [validB_sizes hs]
    exact spec_l02Is_sizes w p a l d A L D hp fa fl fd hs
  obtain ⟨s1, s2, s3, s4⟩ := sizes_spec hs
  have HS0 := Lib.hid hs; clear hs
  obtain ⟨a1, a2, a3, rfl⟩ := fa.shape
  obtain ⟨l1, l2, l3, rfl⟩ := fl.shape
  obtain ⟨d1, d2, d3, rfl⟩ := fd.shape
  obtain ⟨rfl, ma, CA⟩ := fa.at
  obtain ⟨rfl, ml, CL⟩ := fl.at
  obtain ⟨rfl, md, CD⟩ := fd.at
  have k0 : w.cell? ⟨p, 0, none⟩ = some (.slice a1 A.length a3) := hp.cell 0
  have k1 : w.cell? ⟨p, 1, none⟩ = some (.slice l1 L.length l3) := hp.cell 1
  have k2 : w.cell? ⟨p, 2, none⟩ = some (.slice d1 D.length d3) := hp.cell 2
  clear fa fl fd hp ma ml md
  have c1 : (2 : Int) ≤ A.length := by omega
  have c2 : (A.length : Int) ≤ 24 := by omega
  have c3 : ((L.length : Int) != A.length) = false := by rw [bne_eq_false_iff_eq]; omega
  have c4 : ((D.length : Int) != A.length) = false := by rw [bne_eq_false_iff_eq]; omega
  have H1 := Lib.hid s1; have H2 := Lib.hid s2; have H3 := Lib.hid s3; have H4 := Lib.hid s4
  clear s1 s2 s3 s4
  go_enter Try.func64, Try.ntmps64
  go_wp2_with fail
  go_loopw [4] (fun i wr => ∃ k n : Nat, k ≤ A.length ∧ i = .int .i64 k ∧ wr = w.drewN n ∧ Hid (∀ j, j < k → okK A L D j = true)) (fun i _ => A.length - (intOf i).toNat)
  case atStart => exact ⟨0, 0, Nat.zero_le _, rfl, rfl, Lib.hid fun j hj => absurd hj (Nat.not_lt_zero _)⟩
  case round =>
    obtain ⟨k, n, hk, rfl, hw, HS⟩ := hrel
    by_cases hlt : k < A.length
    · obtain ⟨ba, oa, rfl, _, hA⟩ := CA.out k hlt
      obtain ⟨bl, ol, rfl, _, hL⟩ := CL.out k (by have := H3.out; omega)
      obtain ⟨bd, od, rfl, _, hD⟩ := CD.out k (by have := H4.out; omega)
      have HW := Lib.hid hw
      have kk0 : wr.cell? ⟨p, 0, none⟩ = some (.slice (some ⟨ba, oa, none⟩) A.length a3) := by rw [hw]; exact k0
      have kk1 : wr.cell? ⟨p, 1, none⟩ = some (.slice (some ⟨bl, ol, none⟩) L.length l3) := by rw [hw]; exact k1
      have kk2 : wr.cell? ⟨p, 2, none⟩ = some (.slice (some ⟨bd, od, none⟩) D.length d3) := by rw [hw]; exact k2
      obtain ⟨za, ea⟩ : ∃ z, A.getD k 0 = z := ⟨_, rfl⟩
      obtain ⟨zl, el⟩ : ∃ z, L.getD k 0 = z := ⟨_, rfl⟩
      obtain ⟨zd, ed⟩ : ∃ z, D.getD k 0 = z := ⟨_, rfl⟩
      have hA' : wr.cell? ⟨ba, oa + k, none⟩ = some (.float .f32 za) := by rw [hw, ← ea]; exact hA
      have hL' : wr.cell? ⟨bl, ol + k, none⟩ = some (.float .f32 zl) := by rw [hw, ← el]; exact hL
      have hD' : wr.cell? ⟨bd, od + k, none⟩ = some (.float .f32 zd) := by rw [hw, ← ed]; exact hD
      have EA := Lib.hid ea; have EL := Lib.hid el; have ED := Lib.hid ed
      clear hA hL hD ea el ed k0 k1 k2
      have q0 : (k : Int) < A.length := by omega
      have q1 : (k : Int) < L.length := by have := H3.out; omega
      have q2 : (k : Int) < D.length := by have := H4.out; omega
      have q3 : k < L.length := by omega
      have q4 : k < D.length := by omega
      cases hg : (FloatKind.f32.format.order za 3204448256 == some .gt || FloatKind.f32.format.order za 3204448256 == some .eq)
      · have HR : Hid (validB A L D = false) := Lib.hid (validB_no hlt (by unfold okK angB inB geB; rw [EA.out, hg]; rfl))
        clear hw
        go_wp2_with fail
        refine Soft.region (fun _ _ _ => False) (by kernel_rfl) (by kernel_rfl) ?_
        iterate 41 (with_reducible refine Soft.step_k (fun K hK => ?_); go_simp; (try intro nn); (first | with_reducible refine hK _ ?_ | (simp only [undef, reduceCtorEq, if_false]; with_reducible refine hK _ ?_)); clear hK K)
        refine Soft.wpSoft_nil ?_
        intro n2
        go_wp2
        go_ret
        exact .mk' _ (bool_congr HR.out.symm) (by rw [HW.out, World.drewN_drewN])
      · cases hh : (FloatKind.f32.format.order za 1056964608 == some .lt || FloatKind.f32.format.order za 1056964608 == some .eq)
        · have HR : Hid (validB A L D = false) := Lib.hid (validB_no hlt (by unfold okK angB inB leB; rw [EA.out, hh]; simp))
          clear hw
          go_wp2_with fail
          refine Soft.region (fun _ _ _ => False) (by kernel_rfl) (by kernel_rfl) ?_
          iterate 41 (with_reducible refine Soft.step_k (fun K hK => ?_); go_simp; (try intro nn); (first | with_reducible refine hK _ ?_ | (simp only [undef, reduceCtorEq, if_false]; with_reducible refine hK _ ?_)); clear hK K)
          refine Soft.wpSoft_nil ?_
          intro n2
          go_wp2
          go_ret
          exact .mk' _ (bool_congr HR.out.symm) (by rw [HW.out, World.drewN_drewN])
        · have HZ : Hid (angB za = true) := Lib.hid (by unfold angB inB leB geB; rw [hg, hh]; rfl)
          rcases Nat.eq_zero_or_pos k with h0 | h0
          · subst h0
            rw [Nat.add_zero] at hA' hL' hD'
            have HY : Hid ((!(decide (0 < 0) && leB za za)) = true) := Lib.hid rfl
            clear hw
            go_wp2_with fail
            refine Soft.region (fun _ _ _ => False) (by kernel_rfl) (by kernel_rfl) ?_
            iterate 41 (with_reducible refine Soft.step_k (fun K hK => ?_); go_simp; (try intro nn); (first | with_reducible refine hK _ ?_ | (simp only [undef, reduceCtorEq, if_false]; with_reducible refine hK _ ?_)); clear hK K)
            refine Soft.wpSoft_nil ?_
            intro n2
            go_wp2_with fail
            refine (spec_l01Finite _ _).mono ?_
            rintro e w1 ⟨rfl, n3, hw1⟩
            cases hf : finb FloatKind.f32.format zl
            · have HR : Hid (validB A L D = false) := Lib.hid (validB_no hlt (by unfold okK; rw [EL.out]; unfold notFin; rw [hf]; simp))
              have HF := Lib.hid hf; clear hf
              have HW1 := Lib.hid hw1; clear hw1
              go_wp2
              go_ret
              exact .mk' _ (bool_congr HR.out.symm) (by rw [HW1.out, World.drewN_drewN, HW.out, World.drewN_drewN])
            · have HF := Lib.hid hf; clear hf
              have kk2' : w1.cell? ⟨p, 2, none⟩ = some (.slice (some ⟨bd, od, none⟩) D.length d3) := by rw [hw1]; exact kk2
              have hD'' : w1.cell? ⟨bd, od, none⟩ = some (.float .f32 zd) := by rw [hw1]; exact hD'
              have HW1 := Lib.hid hw1; clear hw1
              go_wp2_with fail
              refine (spec_l02Least _ _).mono ?_
              rintro e w2 ⟨rfl, n4, hw2⟩
              have HW2 := Lib.hid (hw2.trans (by rw [HW1.out, World.drewN_drewN, HW.out, World.drewN_drewN, World.drewN_drewN])); clear hw2
              cases hq : notLeast zd
              · have HS' := Lib.hid (okK_step HS.out (show okK A L D 0 = true by
                    unfold okK
                    rw [EA.out, EL.out, ED.out, HZ.out, hq, HY.out]
                    unfold notFin
                    rw [HF.out]; rfl))
                clear hq
                go_wp2
                go_roundw
                case rel => exact ⟨1, _, by omega, by go_num, HW2.out, HS'⟩
                case measure => simp [intOf]; omega
              · have HR : Hid (validB A L D = false) := Lib.hid (validB_no hlt (by unfold okK; rw [ED.out, hq]; simp))
                clear hq
                go_wp2
                go_ret
                exact .mk' _ (bool_congr HR.out.symm) HW2.out
          · obtain ⟨j, rfl⟩ : ∃ j, k = j + 1 := ⟨k - 1, by omega⟩
            obtain ⟨b', o', e', _, hB⟩ := CA.out j (by omega)
            cases e'
            obtain ⟨zb, eb⟩ : ∃ z, A.getD j 0 = z := ⟨_, rfl⟩
            have hB' : wr.cell? ⟨ba, oa + j, none⟩ = some (.float .f32 zb) := by rw [hw, ← eb]; exact hB
            have EB := Lib.hid eb
            clear hB eb hw h0
            have q5 : (j : Int) + 1 < A.length := by omega
            have q6 : (j : Int) + 1 < L.length := by have := H3.out; omega
            have q7 : (j : Int) + 1 < D.length := by have := H4.out; omega
            have q8 : (0 : Int) ≤ (j : Int) + 1 := by omega
            have q9 : (j : Int) < A.length := by omega
            have q10 : IntKind.i64.wrap (j : Int) = j := by rw [IntKind.wrap_i64]; omega
            cases hy : (FloatKind.f32.format.order za zb == some .lt || FloatKind.f32.format.order za zb == some .eq)
            · have HY : Hid ((!(decide (0 < j + 1) && leB za (A.getD (j + 1 - 1) 0))) = true) := Lib.hid (by rw [Nat.add_sub_cancel, EB.out]; unfold leB; rw [hy]; simp)
              go_wp2_with fail
              refine Soft.region (fun _ _ _ => False) (by kernel_rfl) (by kernel_rfl) ?_
              iterate 41 (with_reducible refine Soft.step_k (fun K hK => ?_); go_simp; (try intro nn); (first | with_reducible refine hK _ ?_ | (simp only [undef, reduceCtorEq, if_false]; with_reducible refine hK _ ?_)); clear hK K)
              refine Soft.wpSoft_nil ?_
              intro n2
              go_wp2_with fail
              refine (spec_l01Finite _ _).mono ?_
              rintro e w1 ⟨rfl, n3, hw1⟩
              cases hf : finb FloatKind.f32.format zl
              · have HR : Hid (validB A L D = false) := Lib.hid (validB_no hlt (by unfold okK; rw [EL.out]; unfold notFin; rw [hf]; simp))
                have HF := Lib.hid hf; clear hf
                have HW1 := Lib.hid hw1; clear hw1
                go_wp2
                go_ret
                exact .mk' _ (bool_congr HR.out.symm) (by rw [HW1.out, World.drewN_drewN, HW.out, World.drewN_drewN])
              · have HF := Lib.hid hf; clear hf
                have kk2' : w1.cell? ⟨p, 2, none⟩ = some (.slice (some ⟨bd, od, none⟩) D.length d3) := by rw [hw1]; exact kk2
                have hD'' : w1.cell? ⟨bd, od + (j + 1), none⟩ = some (.float .f32 zd) := by rw [hw1]; exact hD'
                have HW1 := Lib.hid hw1; clear hw1
                go_wp2_with fail
                refine (spec_l02Least _ _).mono ?_
                rintro e w2 ⟨rfl, n4, hw2⟩
                have HW2 := Lib.hid (hw2.trans (by rw [HW1.out, World.drewN_drewN, HW.out, World.drewN_drewN, World.drewN_drewN])); clear hw2
                cases hq : notLeast zd
                · have HS' := Lib.hid (okK_step HS.out (show okK A L D (j + 1) = true by
                      unfold okK
                      rw [EA.out, EL.out, ED.out, HZ.out, hq, HY.out]
                      unfold notFin
                      rw [HF.out]; rfl))
                  clear hq
                  go_wp2
                  go_roundw
                  case rel => exact ⟨j + 1 + 1, _, by omega, by go_num, HW2.out, HS'⟩
                  case measure => simp [intOf]; omega
                · have HR : Hid (validB A L D = false) := Lib.hid (validB_no hlt (by unfold okK; rw [ED.out, hq]; simp))
                  clear hq
                  go_wp2
                  go_ret
                  exact .mk' _ (bool_congr HR.out.symm) HW2.out
            · have HR : Hid (validB A L D = false) := Lib.hid (validB_no hlt (by unfold okK; rw [EA.out, Nat.add_sub_cancel, EB.out]; unfold leB; rw [hy]; simp))
              go_wp2_with fail
              refine Soft.region (fun _ _ _ => False) (by kernel_rfl) (by kernel_rfl) ?_
              iterate 41 (with_reducible refine Soft.step_k (fun K hK => ?_); go_simp; (try intro nn); (first | with_reducible refine hK _ ?_ | (simp only [undef, reduceCtorEq, if_false]; with_reducible refine hK _ ?_)); clear hK K)
              refine Soft.wpSoft_nil ?_
              intro n2
              go_wp2
              go_ret
              exact .mk' _ (bool_congr HR.out.symm) (by rw [HW.out, World.drewN_drewN])
    · have : k = A.length := by omega
      subst this
      have HR := Lib.hid (validB_yes HS0.out HS.out)
      go_wp2
      go_ret
      exact .mk' _ (bool_congr HR.out.symm) (by first | rfl | exact hw)

end Go.Proofs.Ytdkgdinbglkjcaa
