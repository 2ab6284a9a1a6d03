/- Whether a struct of three lists is a valid profile: the program's own way, and the law. -/
import Derived.Test.YtdkgdinbglkjcaaWk10
namespace Go.Proofs.Ytdkgdinbglkjcaa
open Fl Go.RowKit

theorem angB_fin {x : Nat} (h : angB x = true) : fin FloatKind.f32.format x := by
  unfold angB inB geB leB at h
  rcases kinds FloatKind.f32.format x with q | q | q
  · exact q
  · exfalso
    unfold Ieee.Format.order at h
    rw [read_inf (exp_pos .f32) q] at h
    cases hs : ng FloatKind.f32.format x
    · rw [hs] at h; revert h; decide +kernel
    · rw [hs] at h; revert h; decide +kernel
  · exfalso
    rw [order_nan (k := .f32) (.inl q), order_nan (k := .f32) (.inl q)] at h
    cases h
theorem leB_flip {x y : Nat} (hx : fin FloatKind.f32.format x) (hy : fin FloatKind.f32.format y) : geB y x = leB x y := by
  unfold geB leB
  rw [order_fin (exp_pos .f32) hx hy, order_fin (exp_pos .f32) hy hx, compare_gt, compare_lt, compare_eq, compare_eq, Bool.eq_iff_iff]
  simp only [Bool.or_eq_true, decide_eq_true_eq]
  omega

/-- Is the angle k as it should be? -/
def okA (A : List Nat) (k : Nat) : Bool := angB (A.getD k 0) && !(decide (0 < k) && leB (A.getD k 0) (A.getD (k - 1) 0))
theorem okA_ang {A : List Nat} {k : Nat} (h : okA A k = true) : angB (A.getD k 0) = true := by unfold okA at h; rw [Bool.and_eq_true] at h; exact h.1
theorem okA_step {A : List Nat} {k : Nat} (h : ∀ j, j < k → okA A j = true) (h' : okA A k = true) : ∀ j, j < k + 1 → okA A j = true := fun j hj => by
  rcases Nat.lt_or_ge j k with q | q
  · exact h j q
  · have : j = k := by omega
    subst this; exact h'
theorem okK_of {A L D : List Nat} {k : Nat} (h : okA A k = true) (hl : notFin (L.getD k 0) = false) (hd : notLeast (D.getD k 0) = false) : okK A L D k = true := by
  unfold okA at h
  unfold okK
  rw [hl, hd]
  simpa using h
theorem okK_noA {A L D : List Nat} {k : Nat} (h : okA A k = false) : okK A L D k = false := by
  unfold okA at h
  unfold okK
  rw [← Bool.and_assoc, h, Bool.false_and]
theorem any_no {p : Nat → Bool} {zs : List Nat} (h : zs.any p = false) {i : Nat} (hi : i < zs.length) : p (zs.getD i 0) = false := by
  rw [List.any_eq_false] at h
  rw [getD_lt hi]
  simpa using h _ (List.getElem_mem hi)

theorem impl_ValidProfile_sizes (w : World) (v : Value) (A L D : List Nat) (h : PS w v A L D) (hs : sizesB A L D = false) :
    Calls Try.prog 30 #[v] w (RetB (.bool false) w) := by
  obtain ⟨a1, a2, a3, l1, l2, l3, d1, d2, d3, rfl, fa, fl, fd⟩ := h.shape
  obtain ⟨rfl, ma, _⟩ := fa.at
  obtain ⟨rfl, ml, _⟩ := fl.at
  obtain ⟨rfl, md, _⟩ := fd.at
  unfold maxLen at ma ml md
  clear fa fl fd h
  have hs' : ¬ ((2:Int) ≤ A.length ∧ (A.length:Int) ≤ 24 ∧ (L.length:Int) = A.length ∧ (D.length:Int) = A.length) := by
    intro ⟨q1, q2, q3, q4⟩
    have : sizesB A L D = true := by unfold sizesB; rw [decide_eq_true_eq]; omega
    rw [this] at hs; cases hs
  clear hs
  have HB : Hid (Below w.heap.size w (w.alloc (Obj.cells #[Value.slice a1 A.length a3, Value.slice l1 L.length l3, Value.slice d1 D.length d3] 36))) := Lib.hid ((Below.refl _ _).alloc (Nat.le_refl _) _)
  by_cases c1 : (A.length : Int) < 2
  · clear hs'
    go_enter Try.func30, Try.ntmps30
    go_wp2
    go_ret
    exact .mk' rfl HB.out
  · by_cases c2 : (24 : Int) < A.length
    · clear hs'
      go_enter Try.func30, Try.ntmps30
      go_wp2
      go_ret
      exact .mk' rfl HB.out
    · cases c3 : ((L.length : Int) != A.length)
      · cases c4 : ((D.length : Int) != A.length)
        · rw [bne_eq_false_iff_eq] at c3 c4
          omega
        · clear hs'
          go_enter Try.func30, Try.ntmps30
          go_wp2
          go_ret
          exact .mk' rfl HB.out
      · clear hs'
        go_enter Try.func30, Try.ntmps30
        go_wp2
        go_ret
        exact .mk' rfl HB.out

set_option maxRecDepth 8000 in
set_option maxHeartbeats 1600000 in
theorem impl_ValidProfile (w : World) (v : Value) (A L D : List Nat) (h : PS w v A L D) :
    Calls Try.prog 30 #[v] w (RetB (.bool (validB A L D)) w) := by
  cases hs : sizesB A L D
  · rw [validB_sizes hs]
    exact impl_ValidProfile_sizes w v A L D h hs
  obtain ⟨s1, s2, s3, s4⟩ := sizes_spec hs
  have HS0 := Lib.hid hs; clear hs
  obtain ⟨a1, a2, a3, l1, l2, l3, d1, d2, d3, rfl, fa, fl, fd⟩ := h.shape
  obtain ⟨rfl, ma, CA⟩ := fa.at
  obtain ⟨rfl, ml, _⟩ := fl.at
  obtain ⟨rfl, md, _⟩ := fd.at
  have FL := Lib.hid fl; have FD := Lib.hid fd
  clear fa fl fd h ma ml md
  have c1 : (2 : Int) ≤ A.length := by omega
  have c2 : (A.length : Int) ≤ 24 := by omega
  have c3 : ((L.length : Int) != A.length) = false := by rw [bne_eq_false_iff_eq]; omega
  have c4 : ((D.length : Int) != A.length) = false := by rw [bne_eq_false_iff_eq]; omega
  have H1 := Lib.hid s1; have H2 := Lib.hid s2; have H3 := Lib.hid s3; have H4 := Lib.hid s4
  clear s1 s2 s3 s4
  obtain ⟨w0, hw0⟩ : ∃ w0, w0 = (w.alloc (Obj.cells #[Value.slice a1 A.length a3, Value.slice l1 L.length l3, Value.slice d1 D.length d3] 36)) := ⟨_, rfl⟩
  have HB : Hid (Below w.heap.size w w0) := Lib.hid (by rw [hw0]; exact (Below.refl _ _).alloc (Nat.le_refl _) _)
  have K := Lib.hid (Blk.new w #[Value.slice a1 A.length a3, Value.slice l1 L.length l3, Value.slice d1 D.length d3] 36)
  rw [← hw0] at K
  have k0 : w0.cell? ⟨w.heap.size, 0, none⟩ = some (.slice a1 A.length a3) := K.out.cell 0
  have k1 : w0.cell? ⟨w.heap.size, 1, none⟩ = some (.slice l1 L.length l3) := K.out.cell 1
  have k2 : w0.cell? ⟨w.heap.size, 2, none⟩ = some (.slice d1 D.length d3) := K.out.cell 2
  have HW0 := Lib.hid hw0; clear hw0
  cases hf : L.any notFin
  · cases hd : D.any notLeast
    · have HF := Lib.hid hf; have HD := Lib.hid hd; clear hf hd
      go_enter Try.func30, Try.ntmps30
      go_wp2_with fail
      rw [← HW0.out]
      refine (impl_areFinite _ _ L (FL.out.later HB.out)).mono ?_
      rintro e w1 ⟨rfl, n1, hw1⟩
      rw [HF.out]
      have hb1 : Below w.heap.size w w1 := by rw [hw1]; exact below_dn HB.out _
      have kk1 : w1.cell? ⟨w.heap.size, 1, none⟩ = some (.slice l1 L.length l3) := by rw [hw1]; exact k1
      have kk2 : w1.cell? ⟨w.heap.size, 2, none⟩ = some (.slice d1 D.length d3) := by rw [hw1]; exact k2
      have HW1 := Lib.hid hw1; have HB1 := Lib.hid hb1; clear hw1 hb1
      go_wp2_with fail
      refine (impl_areLeast _ _ D (FD.out.later HB1.out)).mono ?_
      rintro e w2 ⟨rfl, n2, hw2⟩
      rw [HD.out]
      have HW2 := Lib.hid (hw2.trans (by rw [HW1.out, World.drewN_drewN])); have HB2 : Hid (Below w.heap.size w w2) := Lib.hid (by rw [hw2]; exact below_dn HB1.out _)
      clear hw2
      have kk0 : w2.cell? ⟨w.heap.size, 0, none⟩ = some (.slice a1 A.length a3) := by rw [HW2.out]; exact k0
      clear k0 k1 k2 kk1 kk2
      go_wp2_with fail
      go_loopw [44] (fun i wr => ∃ k n : Nat, k ≤ A.length ∧ i = .int .i64 k ∧ wr = w2.drewN n ∧ Hid (∀ j, j < k → okA A j = true)) (fun i _ => A.length - (intOf i).toNat)
      case atStart => exact ⟨0, 0, Nat.zero_le _, rfl, rfl, Lib.hid fun j hj => absurd hj (Nat.not_lt_zero _)⟩
      case round =>
        obtain ⟨k, n, hk, rfl, hw, HS⟩ := hrel
        have HBr : Hid (Below w.heap.size w wr) := Lib.hid (by rw [hw]; exact below_dn HB2.out _)
        by_cases hlt : k < A.length
        · obtain ⟨ba, oa, rfl, hba, hA⟩ := CA.out k hlt
          have HW := Lib.hid hw
          have kr0 : wr.cell? ⟨w.heap.size, 0, none⟩ = some (.slice (some ⟨ba, oa, none⟩) A.length a3) := by rw [hw]; exact kk0
          obtain ⟨za, ea⟩ : ∃ z, A.getD k 0 = z := ⟨_, rfl⟩
          have hA' : wr.cell? ⟨ba, oa + k, none⟩ = some (.float .f32 za) := by rw [← ea]; exact (HBr.out.cell (p := ⟨ba, oa + k, none⟩) hba).trans hA
          have EA := Lib.hid ea
          clear hA ea kk0
          have q0 : (k : Int) < A.length := by omega
          cases hz : angB za
          · have HR : Hid (validB A L D = false) := Lib.hid (validB_no hlt (okK_noA (by unfold okA; rw [EA.out, hz]; rfl)))
            have HZ := Lib.hid hz; clear hz hw
            go_wp2_with fail
            refine (impl_isFromTo _ _ _ _).mono ?_
            rintro e w3 ⟨rfl, n3, hw3⟩
            rw [show inB za 3204448256 1056964608 = false from HZ.out]
            have HB3 : Hid (Below w.heap.size w w3) := Lib.hid (by rw [hw3]; exact below_dn HBr.out _)
            clear hw3
            go_wp2
            go_ret
            exact .mk' (bool_congr HR.out.symm) HB3.out
          · have HZ := Lib.hid hz; clear hz
            rcases Nat.eq_zero_or_pos k with h0 | h0
            · subst h0
              rw [Nat.add_zero] at hA'
              have HS' := Lib.hid (okA_step HS.out (show okA A 0 = true by unfold okA; rw [EA.out, HZ.out]; rfl))
              clear hw
              go_wp2_with fail
              refine (impl_isFromTo _ _ _ _).mono ?_
              rintro e w3 ⟨rfl, n3, hw3⟩
              rw [show inB za 3204448256 1056964608 = true from HZ.out]
              have HW3 := Lib.hid (hw3.trans (by rw [HW.out, World.drewN_drewN])); clear hw3
              go_wp2
              go_roundw
              case rel => exact ⟨1, _, by omega, by go_num, HW3.out, HS'⟩
              case measure => simp [intOf]; omega
            · obtain ⟨j, rfl⟩ : ∃ j, k = j + 1 := ⟨k - 1, by omega⟩
              obtain ⟨b', o', e', _, hB⟩ := CA.out j (by omega)
              cases e'
              obtain ⟨zb, eb⟩ : ∃ z, A.getD j 0 = z := ⟨_, rfl⟩
              have hB' : wr.cell? ⟨ba, oa + j, none⟩ = some (.float .f32 zb) := by rw [← eb]; exact (HBr.out.cell (p := ⟨ba, oa + j, none⟩) hba).trans hB
              have EB := Lib.hid eb
              have hfl := leB_flip (angB_fin HZ.out) (angB_fin (show angB zb = true by rw [← eb]; exact okA_ang (HS.out j (by omega))))
              clear hB eb hw h0
              have q5 : (j : Int) + 1 < A.length := by omega
              have q8 : (0 : Int) ≤ (j : Int) + 1 := by omega
              have q9 : (j : Int) < A.length := by omega
              have q10 : IntKind.i64.wrap (j : Int) = j := by rw [IntKind.wrap_i64]; omega
              cases hy : (FloatKind.f32.format.order zb za == some .gt || FloatKind.f32.format.order zb za == some .eq)
              · have HS' := Lib.hid (okA_step HS.out (show okA A (j + 1) = true by unfold okA; rw [EA.out, HZ.out, Nat.add_sub_cancel, EB.out, ← hfl]; unfold geB; rw [hy]; simp))
                clear hfl
                go_wp2_with fail
                refine (impl_isFromTo _ _ _ _).mono ?_
                rintro e w3 ⟨rfl, n3, hw3⟩
                rw [show inB za 3204448256 1056964608 = true from HZ.out]
                have kr3 : w3.cell? ⟨w.heap.size, 0, none⟩ = some (.slice (some ⟨ba, oa, none⟩) A.length a3) := by rw [hw3]; exact kr0
                have hB3 : w3.cell? ⟨ba, oa + j, none⟩ = some (.float .f32 zb) := by rw [hw3]; exact hB'
                have HW3 := Lib.hid (hw3.trans (by rw [HW.out, World.drewN_drewN])); clear hw3
                go_wp2
                go_roundw
                case rel => exact ⟨j + 1 + 1, _, by omega, by go_num, HW3.out, HS'⟩
                case measure => simp [intOf]; omega
              · have HR : Hid (validB A L D = false) := Lib.hid (validB_no hlt (okK_noA (by unfold okA; rw [EA.out, HZ.out, Nat.add_sub_cancel, EB.out, ← hfl]; unfold geB; rw [hy]; simp)))
                clear hfl
                go_wp2_with fail
                refine (impl_isFromTo _ _ _ _).mono ?_
                rintro e w3 ⟨rfl, n3, hw3⟩
                rw [show inB za 3204448256 1056964608 = true from HZ.out]
                have kr3 : w3.cell? ⟨w.heap.size, 0, none⟩ = some (.slice (some ⟨ba, oa, none⟩) A.length a3) := by rw [hw3]; exact kr0
                have hB3 : w3.cell? ⟨ba, oa + j, none⟩ = some (.float .f32 zb) := by rw [hw3]; exact hB'
                have HB3 : Hid (Below w.heap.size w w3) := Lib.hid (by rw [hw3]; exact below_dn HBr.out _)
                clear hw3
                go_wp2
                go_ret
                exact .mk' (bool_congr HR.out.symm) HB3.out
        · have : k = A.length := by omega
          subst this
          have HR := Lib.hid (validB_yes HS0.out fun i hi => okK_of (HS.out i hi) (any_no HF.out (by have := H3.out; omega)) (any_no HD.out (by have := H4.out; omega)))
          clear hw
          go_wp2
          go_ret
          exact .mk' (bool_congr HR.out.symm) HBr.out
    · have HF := Lib.hid hf; have HD := Lib.hid hd
      have HR : Hid (validB A L D = false) := Lib.hid (by
        obtain ⟨x, hx, hq⟩ := List.any_eq_true.1 hd
        obtain ⟨i, hi, rfl⟩ := List.mem_iff_getElem.1 hx
        refine validB_no (k := i) (by have := H4.out; omega) ?_
        unfold okK
        rw [show D.getD i 0 = D[i] from getD_lt hi, hq]
        simp)
      clear hf hd
      go_enter Try.func30, Try.ntmps30
      go_wp2_with fail
      rw [← HW0.out]
      refine (impl_areFinite _ _ L (FL.out.later HB.out)).mono ?_
      rintro e w1 ⟨rfl, n1, hw1⟩
      rw [HF.out]
      have hb1 : Below w.heap.size w w1 := by rw [hw1]; exact below_dn HB.out _
      have kk1 : w1.cell? ⟨w.heap.size, 1, none⟩ = some (.slice l1 L.length l3) := by rw [hw1]; exact k1
      have kk2 : w1.cell? ⟨w.heap.size, 2, none⟩ = some (.slice d1 D.length d3) := by rw [hw1]; exact k2
      have HW1 := Lib.hid hw1; have HB1 := Lib.hid hb1; clear hw1 hb1
      go_wp2_with fail
      refine (impl_areLeast _ _ D (FD.out.later HB1.out)).mono ?_
      rintro e w2 ⟨rfl, n2, hw2⟩
      rw [HD.out]
      have HW2 := Lib.hid (hw2.trans (by rw [HW1.out, World.drewN_drewN])); have HB2 : Hid (Below w.heap.size w w2) := Lib.hid (by rw [hw2]; exact below_dn HB1.out _)
      clear hw2
      go_wp2
      go_ret
      exact .mk' (bool_congr HR.out.symm) HB2.out
  · have HF := Lib.hid hf
    have HR : Hid (validB A L D = false) := Lib.hid (by
      obtain ⟨x, hx, hq⟩ := List.any_eq_true.1 hf
      obtain ⟨i, hi, rfl⟩ := List.mem_iff_getElem.1 hx
      refine validB_no (k := i) (by have := H3.out; omega) ?_
      unfold okK
      rw [show L.getD i 0 = L[i] from getD_lt hi, hq]
      simp)
    clear hf
    go_enter Try.func30, Try.ntmps30
    go_wp2_with fail
    rw [← HW0.out]
    refine (impl_areFinite _ _ L (FL.out.later HB.out)).mono ?_
    rintro e w1 ⟨rfl, n1, hw1⟩
    rw [HF.out]
    have hb1 : Below w.heap.size w w1 := by rw [hw1]; exact below_dn HB.out _
    have HB1 := Lib.hid hb1; clear hw1 hb1
    go_wp2
    go_ret
    exact .mk' (bool_congr HR.out.symm) HB1.out

end Go.Proofs.Ytdkgdinbglkjcaa
