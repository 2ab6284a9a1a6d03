/- StallOf: the knot of the greatest lift. -/
import Derived.Test.YtdkgdinbglkjcaaWk11
namespace Go.Proofs.Ytdkgdinbglkjcaa
open Fl Go.RowKit

def gtB (x y : Nat) : Bool := FloatKind.f32.format.order x y == some .gt
/-- The place of the greatest of the first k. -/
def bst (L : List Nat) : Nat → Nat
  | 0 => 0
  | k + 1 => if gtB (L.getD k 0) (L.getD (bst L k) 0) then k else bst L k
theorem bst_one (L : List Nat) : bst L 1 = 0 := by unfold bst; split <;> rfl
theorem bst_lt (L : List Nat) : ∀ k, 0 < k → bst L k < k
  | 0, h => absurd h (Nat.lt_irrefl _)
  | 1, _ => by rw [bst_one]; exact Nat.zero_lt_one
  | k + 2, _ => by
    have := bst_lt L (k + 1) (Nat.succ_pos _)
    unfold bst
    split <;> omega
theorem bst_gt {L : List Nat} {k : Nat} (h : gtB (L.getD k 0) (L.getD (bst L k) 0) = true) : bst L (k + 1) = k := by
  show (if gtB (L.getD k 0) (L.getD (bst L k) 0) then k else bst L k) = k
  rw [if_pos h]
theorem bst_le {L : List Nat} {k : Nat} (h : gtB (L.getD k 0) (L.getD (bst L k) 0) = false) : bst L (k + 1) = bst L k := by
  show (if gtB (L.getD k 0) (L.getD (bst L k) 0) then k else bst L k) = bst L k
  rw [h]; rfl
def stallR (A L D : List Nat) : Value := if validB A L D then .tuple #[.int .i64 (bst L L.length), .float .f32 (A.getD (bst L L.length) 0), .bool true] else .tuple #[.int .i64 0, .float .f32 0, .bool false]
theorem stallR_yes {A L D : List Nat} (h : validB A L D = true) : stallR A L D = .tuple #[.int .i64 (bst L L.length), .float .f32 (A.getD (bst L L.length) 0), .bool true] := by unfold stallR; rw [h]; rfl
theorem stallR_no {A L D : List Nat} (h : validB A L D = false) : stallR A L D = .tuple #[.int .i64 0, .float .f32 0, .bool false] := by unfold stallR; rw [h]; rfl

theorem spec_StallOf (w : World) (v : Value) (A L D : List Nat) (h : PS w v A L D) : Calls Try.prog 37 #[v] w (RetB (stallR A L D) w) := by
  obtain ⟨a1, a2, a3, l1, l2, l3, d1, d2, d3, rfl, fa, fl, fd⟩ := h.shape
  have FA := Lib.hid fa; have FL := Lib.hid fl; have FD := Lib.hid fd
  obtain ⟨rfl, ma, CA⟩ := fa.at
  obtain ⟨rfl, ml, CL⟩ := fl.at
  clear fa fl fd h ma ml
  have KP := Lib.hid (Blk.new w #[Value.slice a1 A.length a3, Value.slice l1 L.length l3, Value.slice d1 d2 d3] 36)
  have HB : Hid (Below w.heap.size w (w.alloc (Obj.cells #[Value.slice a1 A.length a3, Value.slice l1 L.length l3, Value.slice d1 d2 d3] 36))) := Lib.hid ((Below.refl _ _).alloc (Nat.le_refl _) _)
  cases hv : validB A L D
  · have HV := Lib.hid hv; clear hv
    rw [stallR_no HV.out]
    go_enter Try.func37, Try.ntmps37
    go_wp2_with fail
    refine (spec_l02Is _ _ _ _ _ A L D KP.out (FA.out.later HB.out) (FL.out.later HB.out) (FD.out.later HB.out)).mono ?_
    rintro e w1 ⟨rfl, n1, rfl⟩
    rw [HV.out]
    go_wp2
    go_ret3
    exact .mk' rfl (below_dn HB.out _)
  · have HV := Lib.hid hv
    obtain ⟨s1, s2, s3, s4⟩ := sizes_spec (valid_sizes hv)
    have H1 := Lib.hid s1; have H2 := Lib.hid s2; have H3 := Lib.hid s3; have H4 := Lib.hid s4
    clear hv s1 s2 s3 s4
    go_enter Try.func37, Try.ntmps37
    go_wp2_with fail
    refine (spec_l02Is _ _ _ _ _ A L D KP.out (FA.out.later HB.out) (FL.out.later HB.out) (FD.out.later HB.out)).mono ?_
    rintro e w1 ⟨rfl, n1, hw1⟩
    rw [HV.out]
    have HB1 : Hid (Below w.heap.size w w1) := Lib.hid (by rw [hw1]; exact below_dn HB.out _)
    have K1 : Hid (Blk w1 w.heap.size #[Value.slice a1 A.length a3, Value.slice l1 L.length l3, Value.slice d1 d2 d3] 36) := Lib.hid (by rw [hw1]; exact KP.out)
    clear hw1
    go_wp2_with fail
    go_loopw [5, 6] (fun s i wr => ∃ k n : Nat, 1 ≤ k ∧ k ≤ L.length ∧ s = .int .i64 (bst L k) ∧ i = .int .i64 k ∧ wr = w1.drewN n) (fun _ i _ => L.length - (intOf i).toNat)
    case atStart => exact ⟨1, 0, Nat.le_refl _, by have := H1.out; have := H3.out; omega, by rw [bst_one]; rfl, rfl, rfl⟩
    case round =>
      obtain ⟨k, n, hk1, hk, rfl, rfl, hw⟩ := hrel
      have HBr : Hid (Below w.heap.size w wr) := Lib.hid (by rw [hw]; exact below_dn HB1.out _)
      have HW := Lib.hid hw
      by_cases hlt : k < L.length
      · have hm : bst L k < L.length := by
          rcases Nat.eq_zero_or_pos k with q | q
          · subst q; exact hlt
          · have := bst_lt L k q; omega
        have HG := Lib.hid (bst_gt (L := L) (k := k)); have HE := Lib.hid (bst_le (L := L) (k := k))
        obtain ⟨m, em⟩ : ∃ m, bst L k = m := ⟨_, rfl⟩
        rw [em] at HG HE hm ⊢
        have EM := Lib.hid em; clear em
        obtain ⟨bl, ol, rfl, hbl, hL⟩ := CL.out k hlt
        obtain ⟨b', o', e', _, hM⟩ := CL.out m hm
        cases e'
        have kr0 : wr.cell? ⟨w.heap.size, 0, none⟩ = some (.slice a1 A.length a3) := by rw [hw]; exact K1.out.cell 0
        have kr1 : wr.cell? ⟨w.heap.size, 1, none⟩ = some (.slice (some ⟨bl, ol, none⟩) L.length l3) := by rw [hw]; exact K1.out.cell 1
        obtain ⟨zk, ek⟩ : ∃ z, L.getD k 0 = z := ⟨_, rfl⟩
        obtain ⟨zm, eq⟩ : ∃ z, L.getD m 0 = z := ⟨_, rfl⟩
        have hL' : wr.cell? ⟨bl, ol + k, none⟩ = some (.float .f32 zk) := by rw [← ek]; exact (HBr.out.cell (p := ⟨bl, ol + k, none⟩) hbl).trans hL
        have hM' : wr.cell? ⟨bl, ol + m, none⟩ = some (.float .f32 zm) := by rw [← eq]; exact (HBr.out.cell (p := ⟨bl, ol + m, none⟩) hbl).trans hM
        rw [ek, eq] at HG HE
        clear hL hM ek eq hw
        have q0 : (k : Int) < L.length := by omega
        have q3 : (L.length : Int) ≤ 24 := by have := H2.out; have := H3.out; omega
        have q1 : (m : Int) < L.length := by omega
        have q2 : (k : Int) < A.length := by have := H3.out; omega
        cases hg : (FloatKind.f32.format.order zk zm == some .gt)
        · have HN : Hid (bst L (k + 1) = m) := Lib.hid (HE.out hg)
          go_wp2_with fail
          refine Soft.region (fun _ _ _ => False) (by kernel_rfl) (by kernel_rfl) ?_
          iterate 11 (with_reducible refine Soft.step_k (fun K hK => ?_); go_simp; (try intro nn); (first | with_reducible refine hK _ ?_ | (simp only [undef, reduceCtorEq, if_false]; with_reducible refine hK _ ?_)); clear hK K)
          refine Soft.wpSoft_nil ?_
          intro n2
          go_wp2
          go_roundw
          case rel => exact ⟨k + 1, _, by omega, by omega, by rw [HN.out], by go_num, by rw [HW.out, World.drewN_drewN]⟩
          case measure => simp [intOf]; omega
        · have HN : Hid (bst L (k + 1) = k) := Lib.hid (HG.out hg)
          go_wp2_with fail
          refine Soft.region (fun _ _ _ => False) (by kernel_rfl) (by kernel_rfl) ?_
          iterate 11 (with_reducible refine Soft.step_k (fun K hK => ?_); go_simp; (try intro nn); (first | with_reducible refine hK _ ?_ | (simp only [undef, reduceCtorEq, if_false]; with_reducible refine hK _ ?_)); clear hK K)
          refine Soft.wpSoft_nil ?_
          intro n2
          go_wp2
          go_roundw
          case rel => exact ⟨k + 1, _, by omega, by omega, by rw [HN.out], by go_num, by rw [HW.out, World.drewN_drewN]⟩
          case measure => simp [intOf]; omega
      · have : k = L.length := by omega
        subst this
        have hm : bst L L.length < L.length := bst_lt L _ (by have := H1.out; have := H3.out; omega)
        obtain ⟨m, em⟩ : ∃ m, bst L L.length = m := ⟨_, rfl⟩
        rw [em] at hm ⊢
        have EM := Lib.hid em; clear em
        obtain ⟨ba, oa, rfl, hba, hA⟩ := CA.out m (by have := H3.out; omega)
        have kr0 : wr.cell? ⟨w.heap.size, 0, none⟩ = some (.slice (some ⟨ba, oa, none⟩) A.length a3) := by rw [hw]; exact K1.out.cell 0
        have kr1 : wr.cell? ⟨w.heap.size, 1, none⟩ = some (.slice l1 L.length l3) := by rw [hw]; exact K1.out.cell 1
        obtain ⟨za, ea⟩ : ∃ z, A.getD m 0 = z := ⟨_, rfl⟩
        have hA' : wr.cell? ⟨ba, oa + m, none⟩ = some (.float .f32 za) := by rw [← ea]; exact (HBr.out.cell (p := ⟨ba, oa + m, none⟩) hba).trans hA
        have EA := Lib.hid ea
        clear hA ea hw
        have q1 : (m : Int) < A.length := by have := H3.out; omega
        have q2 : (m : Int) < L.length := by omega
        have q3 : (A.length : Int) ≤ L.length := by have := H3.out; omega
        go_wp2_with fail
        refine Soft.region (fun _ _ _ => False) (by kernel_rfl) (by kernel_rfl) ?_
        iterate 9 (with_reducible refine Soft.step_k (fun K hK => ?_); go_simp; (try intro nn); (first | with_reducible refine hK _ ?_ | (simp only [undef, reduceCtorEq, if_false]; with_reducible refine hK _ ?_)); clear hK K)
        refine Soft.wpSoft_nil ?_
        intro n2
        go_wp2
        go_ret3
        exact .mk' (by rw [stallR_yes HV.out, EM.out, EA.out]; rfl) (below_dn HBr.out _)

theorem impl_StallOf (w : World) (v : Value) (A L D : List Nat) (h : PS w v A L D) : Calls Try.prog 38 #[v] w (RetB (stallR A L D) w) := by
  obtain ⟨a1, a2, a3, l1, l2, l3, d1, d2, d3, rfl, fa, fl, fd⟩ := h.shape
  have P := Lib.hid h
  obtain ⟨rfl, ma, CA⟩ := fa.at
  obtain ⟨rfl, ml, CL⟩ := fl.at
  clear fa fl fd h ma ml
  have HB : Hid (Below w.heap.size w (w.alloc (Obj.cells #[Value.slice a1 A.length a3, Value.slice l1 L.length l3, Value.slice d1 d2 d3] 36))) := Lib.hid ((Below.refl _ _).alloc (Nat.le_refl _) _)
  cases hv : validB A L D
  · have HV := Lib.hid hv; clear hv
    rw [stallR_no HV.out]
    go_enter Try.func38, Try.ntmps38
    go_wp2_with fail
    refine (impl_ValidProfile _ _ A L D (P.out.later HB.out)).mono ?_
    rintro e w1 ⟨rfl, hb⟩
    rw [HV.out]
    have HB1 := Lib.hid (HB.out.trans (hb.mono HB.out.size)); clear hb
    go_wp2
    go_ret3
    exact .mk' rfl HB1.out
  · have HV := Lib.hid hv
    obtain ⟨s1, s2, s3, s4⟩ := sizes_spec (valid_sizes hv)
    have H1 := Lib.hid s1; have H2 := Lib.hid s2; have H3 := Lib.hid s3; have H4 := Lib.hid s4
    clear hv s1 s2 s3 s4
    go_enter Try.func38, Try.ntmps38
    go_wp2_with fail
    refine (impl_ValidProfile _ _ A L D (P.out.later HB.out)).mono ?_
    rintro e w1 ⟨rfl, hb⟩
    rw [HV.out]
    have HB1 := Lib.hid (HB.out.trans (hb.mono HB.out.size))
    have K1 := Lib.hid ((Blk.new w #[Value.slice a1 A.length a3, Value.slice l1 L.length l3, Value.slice d1 d2 d3] 36).later hb)
    have k1 : w1.cell? ⟨w.heap.size, 1, none⟩ = some (.slice l1 L.length l3) := K1.out.cell 1
    clear hb
    go_wp2_with fail
    go_loopw [5, 14] (fun s i wr => ∃ k n : Nat, k ≤ L.length ∧ s = .int .i64 (bst L k) ∧ i = .int .i64 k ∧ wr = w1.drewN n) (fun _ i _ => L.length - (intOf i).toNat)
    case atStart => exact ⟨0, 0, Nat.zero_le _, rfl, rfl, rfl⟩
    case round =>
      obtain ⟨k, n, hk, rfl, rfl, hw⟩ := hrel
      have HBr : Hid (Below w.heap.size w wr) := Lib.hid (by rw [hw]; exact below_dn HB1.out _)
      have HW := Lib.hid hw
      by_cases hlt : k < L.length
      · have hm : bst L k < L.length := by
          rcases Nat.eq_zero_or_pos k with q | q
          · subst q; exact hlt
          · have := bst_lt L k q; omega
        have HG := Lib.hid (bst_gt (L := L) (k := k)); have HE := Lib.hid (bst_le (L := L) (k := k))
        obtain ⟨m, em⟩ : ∃ m, bst L k = m := ⟨_, rfl⟩
        rw [em] at HG HE hm ⊢
        have EM := Lib.hid em; clear em
        obtain ⟨bl, ol, rfl, hbl, hL⟩ := CL.out k hlt
        obtain ⟨b', o', e', _, hM⟩ := CL.out m hm
        cases e'
        have kr0 : wr.cell? ⟨w.heap.size, 0, none⟩ = some (.slice a1 A.length a3) := by rw [hw]; exact K1.out.cell 0
        have kr1 : wr.cell? ⟨w.heap.size, 1, none⟩ = some (.slice (some ⟨bl, ol, none⟩) L.length l3) := by rw [hw]; exact K1.out.cell 1
        obtain ⟨zk, ek⟩ : ∃ z, L.getD k 0 = z := ⟨_, rfl⟩
        obtain ⟨zm, eq⟩ : ∃ z, L.getD m 0 = z := ⟨_, rfl⟩
        have hL' : wr.cell? ⟨bl, ol + k, none⟩ = some (.float .f32 zk) := by rw [← ek]; exact (HBr.out.cell (p := ⟨bl, ol + k, none⟩) hbl).trans hL
        have hM' : wr.cell? ⟨bl, ol + m, none⟩ = some (.float .f32 zm) := by rw [← eq]; exact (HBr.out.cell (p := ⟨bl, ol + m, none⟩) hbl).trans hM
        rw [ek, eq] at HG HE
        clear hL hM ek eq hw
        have q0 : (k : Int) < L.length := by omega
        have q3 : (L.length : Int) ≤ 24 := by have := H2.out; have := H3.out; omega
        have q1 : (m : Int) < L.length := by omega
        have q2 : (k : Int) < A.length := by have := H3.out; omega
        cases hg : (FloatKind.f32.format.order zk zm == some .gt)
        · have HN : Hid (bst L (k + 1) = m) := Lib.hid (HE.out hg)
          go_wp2
          go_roundw
          case rel => exact ⟨k + 1, _, by omega, by rw [HN.out], by go_num, HW.out⟩
          case measure => simp [intOf]; omega
        · have HN : Hid (bst L (k + 1) = k) := Lib.hid (HG.out hg)
          go_wp2
          go_roundw
          case rel => exact ⟨k + 1, _, by omega, by rw [HN.out], by go_num, HW.out⟩
          case measure => simp [intOf]; omega
      · have : k = L.length := by omega
        subst this
        have hm : bst L L.length < L.length := bst_lt L _ (by have := H1.out; have := H3.out; omega)
        obtain ⟨m, em⟩ : ∃ m, bst L L.length = m := ⟨_, rfl⟩
        rw [em] at hm ⊢
        have EM := Lib.hid em; clear em
        obtain ⟨ba, oa, rfl, hba, hA⟩ := CA.out m (by have := H3.out; omega)
        have kr0 : wr.cell? ⟨w.heap.size, 0, none⟩ = some (.slice (some ⟨ba, oa, none⟩) A.length a3) := by rw [hw]; exact K1.out.cell 0
        have kr1 : wr.cell? ⟨w.heap.size, 1, none⟩ = some (.slice l1 L.length l3) := by rw [hw]; exact K1.out.cell 1
        obtain ⟨za, ea⟩ : ∃ z, A.getD m 0 = z := ⟨_, rfl⟩
        have hA' : wr.cell? ⟨ba, oa + m, none⟩ = some (.float .f32 za) := by rw [← ea]; exact (HBr.out.cell (p := ⟨ba, oa + m, none⟩) hba).trans hA
        have EA := Lib.hid ea
        clear hA ea hw
        have q1 : (m : Int) < A.length := by have := H3.out; omega
        have q2 : (m : Int) < L.length := by omega
        have q3 : (A.length : Int) ≤ L.length := by have := H3.out; omega
        go_wp2_with fail
        refine Soft.region (fun _ _ _ => False) (by kernel_rfl) (by kernel_rfl) ?_
        iterate 9 (with_reducible refine Soft.step_k (fun K hK => ?_); go_simp; (try intro nn); (first | with_reducible refine hK _ ?_ | (simp only [undef, reduceCtorEq, if_false]; with_reducible refine hK _ ?_)); clear hK K)
        refine Soft.wpSoft_nil ?_
        intro n2
        go_wp2
        go_ret3
        exact .mk' (by rw [stallR_yes HV.out, EM.out, EA.out]; rfl) (below_dn HBr.out _)

end Go.Proofs.Ytdkgdinbglkjcaa
