/- ZeroLift, walked. -/
import Derived.Test.YtdkgdinbglkjcaaWk13
namespace Go.Proofs.Ytdkgdinbglkjcaa
open Fl Go.RowKit

set_option maxRecDepth 8000 in
set_option maxHeartbeats 1600000 in
theorem spec_ZeroLift (w : World) (v : Value) (A L D : List Nat) (h : PS w v A L D) : Calls Try.prog 43 #[v] w (RetB (zeroR A L D) w) := by
  obtain ⟨a1, a2, a3, l1, l2, l3, d1, d2, d3, rfl, fa, fl, fd⟩ := h.shape
  have FA := Lib.hid fa; have FL := Lib.hid fl; have FD := Lib.hid fd
  obtain ⟨rfl, ma, CA⟩ := fa.at
  obtain ⟨rfl, ml, CL⟩ := fl.at
  clear fa fl fd h ma ml
  have KP := Lib.hid (Blk.new w #[Value.slice a1 A.length a3, Value.slice l1 L.length l3, Value.slice d1 d2 d3] 36)
  have HB : Hid (Below w.heap.size w (w.alloc (Obj.cells #[Value.slice a1 A.length a3, Value.slice l1 L.length l3, Value.slice d1 d2 d3] 36))) := Lib.hid ((Below.refl _ _).alloc (Nat.le_refl _) _)
  cases hv : validB A L D
  · have HV := Lib.hid hv; clear hv
    rw [zeroR_no HV.out]
    go_enter Try.func43, Try.ntmps43
    go_wp2_with fail
    refine (spec_l02Is _ _ _ _ _ A L D KP.out (FA.out.later HB.out) (FL.out.later HB.out) (FD.out.later HB.out)).mono ?_
    rintro e w1 ⟨rfl, n1, rfl⟩
    rw [HV.out]
    go_wp2
    go_ret2
    exact .mk' rfl (below_dn HB.out _)
  · have HV := Lib.hid hv
    obtain ⟨s1, s2, s3, s4⟩ := sizes_spec (valid_sizes hv)
    have H1 := Lib.hid s1; have H2 := Lib.hid s2; have H3 := Lib.hid s3; have H4 := Lib.hid s4
    clear hv s1 s2 s3 s4
    go_enter Try.func43, Try.ntmps43
    go_wp2_with fail
    refine (spec_l02Is _ _ _ _ _ A L D KP.out (FA.out.later HB.out) (FL.out.later HB.out) (FD.out.later HB.out)).mono ?_
    rintro e w1 ⟨rfl, n1, hw1⟩
    rw [HV.out]
    have HB1 : Hid (Below w.heap.size w w1) := Lib.hid (by rw [hw1]; exact below_dn HB.out _)
    have K1 : Hid (Blk w1 w.heap.size #[Value.slice a1 A.length a3, Value.slice l1 L.length l3, Value.slice d1 d2 d3] 36) := Lib.hid (by rw [hw1]; exact KP.out)
    clear hw1
    go_wp2_with fail
    go_loopw [4] (fun i wr => ∃ j n : Nat, j + 1 ≤ L.length ∧ i = .int .i64 ((j : Int) + 1) ∧ wr = w1.drewN n ∧ Hid (∀ t, t < j → crossB L t = false)) (fun i _ => L.length - (intOf i).toNat)
    case atStart => exact ⟨0, 0, by have := H1.out; have := H3.out; omega, rfl, rfl, Lib.hid fun t ht => absurd ht (Nat.not_lt_zero _)⟩
    case round =>
      obtain ⟨j, n, hk, rfl, hw, HS⟩ := hrel
      have HBr : Hid (Below w.heap.size w wr) := Lib.hid (by rw [hw]; exact below_dn HB1.out _)
      have HW := Lib.hid hw
      have q3 : (L.length : Int) ≤ 24 := by have := H2.out; have := H3.out; omega
      have q4 : (A.length : Int) = L.length := by have := H3.out; omega
      by_cases hlt : j + 1 < L.length
      · obtain ⟨bl, ol, rfl, hbl, hL⟩ := CL.out j (by omega)
        obtain ⟨b', o', e', _, hM⟩ := CL.out (j + 1) hlt
        cases e'
        obtain ⟨ba, oa, rfl, hba, hA⟩ := CA.out j (by have := H3.out; omega)
        obtain ⟨b', o', e', _, hN⟩ := CA.out (j + 1) (by have := H3.out; omega)
        cases e'
        have kr0 : wr.cell? ⟨w.heap.size, 0, none⟩ = some (.slice (some ⟨ba, oa, none⟩) A.length a3) := by rw [hw]; exact K1.out.cell 0
        have kr1 : wr.cell? ⟨w.heap.size, 1, none⟩ = some (.slice (some ⟨bl, ol, none⟩) L.length l3) := by rw [hw]; exact K1.out.cell 1
        obtain ⟨z0, e0⟩ : ∃ z, L.getD j 0 = z := ⟨_, rfl⟩
        obtain ⟨z1, e1⟩ : ∃ z, L.getD (j + 1) 0 = z := ⟨_, rfl⟩
        obtain ⟨p0, g0⟩ : ∃ z, A.getD j 0 = z := ⟨_, rfl⟩
        obtain ⟨p1, g1⟩ : ∃ z, A.getD (j + 1) 0 = z := ⟨_, rfl⟩
        have hL' : wr.cell? ⟨bl, ol + j, none⟩ = some (.float .f32 z0) := by rw [← e0]; exact (HBr.out.cell (p := ⟨bl, ol + j, none⟩) hbl).trans hL
        have hM' : wr.cell? ⟨bl, ol + (j + 1), none⟩ = some (.float .f32 z1) := by rw [← e1]; exact (HBr.out.cell (p := ⟨bl, ol + (j + 1), none⟩) hbl).trans hM
        have hA' : wr.cell? ⟨ba, oa + j, none⟩ = some (.float .f32 p0) := by rw [← g0]; exact (HBr.out.cell (p := ⟨ba, oa + j, none⟩) hba).trans hA
        have hN' : wr.cell? ⟨ba, oa + (j + 1), none⟩ = some (.float .f32 p1) := by rw [← g1]; exact (HBr.out.cell (p := ⟨ba, oa + (j + 1), none⟩) hba).trans hN
        have E0 := Lib.hid e0; have E1 := Lib.hid e1; have G0 := Lib.hid g0; have G1 := Lib.hid g1
        clear hL hM hA hN e0 e1 g0 g1 hw
        have q0 : (j : Int) + 1 < L.length := by omega
        have q1 : (j : Int) < L.length := by omega
        have q2 : (j : Int) + 1 < A.length := by omega
        have q5 : (j : Int) < A.length := by omega
        have q6 : (0 : Int) ≤ (j : Int) + 1 := by omega
        have q7 : IntKind.i64.wrap (j : Int) = j := by rw [IntKind.wrap_i64]; omega
        clear q4
        cases hc1 : (FloatKind.f32.format.order z0 0 == some .lt || FloatKind.f32.format.order z0 0 == some .eq)
        · have HS' : Hid (∀ t, t < j + 1 → crossB L t = false) := Lib.hid fun t ht => by
            rcases Nat.lt_or_ge t j with q | q
            · exact HS.out t q
            · obtain rfl : t = j := by omega
              unfold crossB leB; rw [E0.out, hc1]; rfl
          cases hc2 : (FloatKind.f32.format.order z1 0 == some .gt)
          · go_wp2
            go_roundw
            case rel => exact ⟨j + 1, _, by omega, by go_num, HW.out, HS'⟩
            case measure => simp [intOf]; omega
          · go_wp2
            go_roundw
            case rel => exact ⟨j + 1, _, by omega, by go_num, HW.out, HS'⟩
            case measure => simp [intOf]; omega
        · cases hc2 : (FloatKind.f32.format.order z1 0 == some .gt)
          · have HS' : Hid (∀ t, t < j + 1 → crossB L t = false) := Lib.hid fun t ht => by
              rcases Nat.lt_or_ge t j with q | q
              · exact HS.out t q
              · obtain rfl : t = j := by omega
                unfold crossB gtB; rw [E1.out, hc2]; simp
            go_wp2
            go_roundw
            case rel => exact ⟨j + 1, _, by omega, by go_num, HW.out, HS'⟩
            case measure => simp [intOf]; omega
          · have HC : Hid (crossB L j = true) := Lib.hid (by unfold crossB leB gtB; rw [E0.out, E1.out, hc1, hc2]; rfl)
            go_wp2_with fail
            refine Soft.region (fun _ _ _ => False) (by kernel_rfl) (by kernel_rfl) ?_
            iterate 13 (with_reducible refine Soft.step_k (fun K hK => ?_); go_simp; (try intro nn); (first | with_reducible refine hK _ ?_ | (simp only [undef, reduceCtorEq, if_false]; with_reducible refine hK _ ?_)); clear hK K)
            refine Soft.wpSoft_nil ?_
            intro n3
            go_wp2_with fail
            refine (spec_l02Number _ _).mono ?_
            rintro e w5 ⟨rfl, n5, hw5⟩
            obtain ⟨z, o, hz⟩ := numR_shape (crossC A L j)
            simp only [cls_fa]
            have HN : Hid (cop .add .f32 (cls .f32 p0) (cop .mul .f32 (cop .sub .f32 (cls .f32 p1) (cls .f32 p0)) (cop .quo .f32 (cls .f32 z0) (cop .sub .f32 (cls .f32 z0) (cls .f32 z1)))) = crossC A L j) := Lib.hid (by unfold crossC; rw [E0.out, E1.out, G0.out, G1.out])
            rw [HN.out, hz]
            have HZ := Lib.hid hz
            have HB5 : Hid (Below w.heap.size w w5) := Lib.hid (by rw [hw5]; exact below_dn (below_dn HBr.out _) _)
            clear hz hw5
            go_wp2
            go_ret2
            exact .mk' (by rw [zeroR_some HV.out hlt HC.out HS.out, HZ.out]; rfl) HB5.out
      · have HN := Lib.hid (zeroR_none HV.out fun t ht => HS.out t (by omega))
        have q0 : (L.length : Int) ≤ (j : Int) + 1 := by omega
        have q1 : (A.length : Int) ≤ (j : Int) + 1 := by omega
        have kr0 : wr.cell? ⟨w.heap.size, 0, none⟩ = some (.slice a1 A.length a3) := by rw [hw]; exact K1.out.cell 0
        have kr1 : wr.cell? ⟨w.heap.size, 1, none⟩ = some (.slice l1 L.length l3) := by rw [hw]; exact K1.out.cell 1
        clear hw q4
        go_wp2
        go_ret2
        exact .mk' (by rw [HN.out]; rfl) HBr.out

set_option maxRecDepth 8000 in
set_option maxHeartbeats 1600000 in
theorem impl_ZeroLift (w : World) (v : Value) (A L D : List Nat) (h : PS w v A L D) : Calls Try.prog 44 #[v] w (RetB (zeroR A L D) w) := by
  obtain ⟨a1, a2, a3, l1, l2, l3, d1, d2, d3, rfl, fa, fl, fd⟩ := h.shape
  have P := Lib.hid h
  obtain ⟨rfl, ma, CA⟩ := fa.at
  obtain ⟨rfl, ml, CL⟩ := fl.at
  clear fa fl fd h ma ml
  have HB : Hid (Below w.heap.size w (w.alloc (Obj.cells #[Value.slice a1 A.length a3, Value.slice l1 L.length l3, Value.slice d1 d2 d3] 36))) := Lib.hid ((Below.refl _ _).alloc (Nat.le_refl _) _)
  cases hv : validB A L D
  · have HV := Lib.hid hv; clear hv
    rw [zeroR_no HV.out]
    go_enter Try.func44, Try.ntmps44
    go_wp2_with fail
    refine (impl_ValidProfile _ _ A L D (P.out.later HB.out)).mono ?_
    rintro e w1 ⟨rfl, hb⟩
    rw [HV.out]
    have HB1 := Lib.hid (HB.out.trans (hb.mono HB.out.size)); clear hb
    go_wp2
    go_ret2
    exact .mk' rfl HB1.out
  · have HV := Lib.hid hv
    obtain ⟨s1, s2, s3, s4⟩ := sizes_spec (valid_sizes hv)
    have H1 := Lib.hid s1; have H2 := Lib.hid s2; have H3 := Lib.hid s3; have H4 := Lib.hid s4
    clear hv s1 s2 s3 s4
    go_enter Try.func44, Try.ntmps44
    go_wp2_with fail
    refine (impl_ValidProfile _ _ A L D (P.out.later HB.out)).mono ?_
    rintro e w1 ⟨rfl, hb⟩
    rw [HV.out]
    have HB1 := Lib.hid (HB.out.trans (hb.mono HB.out.size))
    have K1 := Lib.hid ((Blk.new w #[Value.slice a1 A.length a3, Value.slice l1 L.length l3, Value.slice d1 d2 d3] 36).later hb)
    clear hb
    go_wp2_with fail
    go_loopw [4] (fun i wr => ∃ j n : Nat, j + 1 ≤ L.length ∧ i = .int .i64 ((j : Int) + 1) ∧ wr = w1.drewN n ∧ Hid (∀ t, t < j → crossB L t = false)) (fun i _ => L.length - (intOf i).toNat)
    case atStart => exact ⟨0, 0, by have := H1.out; have := H3.out; omega, rfl, rfl, Lib.hid fun t ht => absurd ht (Nat.not_lt_zero _)⟩
    case round =>
      obtain ⟨j, n, hk, rfl, hw, HS⟩ := hrel
      have HBr : Hid (Below w.heap.size w wr) := Lib.hid (by rw [hw]; exact below_dn HB1.out _)
      have HW := Lib.hid hw
      have q3 : (L.length : Int) ≤ 24 := by have := H2.out; have := H3.out; omega
      have q4 : (A.length : Int) = L.length := by have := H3.out; omega
      by_cases hlt : j + 1 < L.length
      · obtain ⟨bl, ol, rfl, hbl, hL⟩ := CL.out j (by omega)
        obtain ⟨b', o', e', _, hM⟩ := CL.out (j + 1) hlt
        cases e'
        obtain ⟨ba, oa, rfl, hba, hA⟩ := CA.out j (by have := H3.out; omega)
        obtain ⟨b', o', e', _, hN⟩ := CA.out (j + 1) (by have := H3.out; omega)
        cases e'
        have kr0 : wr.cell? ⟨w.heap.size, 0, none⟩ = some (.slice (some ⟨ba, oa, none⟩) A.length a3) := by rw [hw]; exact K1.out.cell 0
        have kr1 : wr.cell? ⟨w.heap.size, 1, none⟩ = some (.slice (some ⟨bl, ol, none⟩) L.length l3) := by rw [hw]; exact K1.out.cell 1
        obtain ⟨z0, e0⟩ : ∃ z, L.getD j 0 = z := ⟨_, rfl⟩
        obtain ⟨z1, e1⟩ : ∃ z, L.getD (j + 1) 0 = z := ⟨_, rfl⟩
        obtain ⟨p0, g0⟩ : ∃ z, A.getD j 0 = z := ⟨_, rfl⟩
        obtain ⟨p1, g1⟩ : ∃ z, A.getD (j + 1) 0 = z := ⟨_, rfl⟩
        have hL' : wr.cell? ⟨bl, ol + j, none⟩ = some (.float .f32 z0) := by rw [← e0]; exact (HBr.out.cell (p := ⟨bl, ol + j, none⟩) hbl).trans hL
        have hM' : wr.cell? ⟨bl, ol + (j + 1), none⟩ = some (.float .f32 z1) := by rw [← e1]; exact (HBr.out.cell (p := ⟨bl, ol + (j + 1), none⟩) hbl).trans hM
        have hA' : wr.cell? ⟨ba, oa + j, none⟩ = some (.float .f32 p0) := by rw [← g0]; exact (HBr.out.cell (p := ⟨ba, oa + j, none⟩) hba).trans hA
        have hN' : wr.cell? ⟨ba, oa + (j + 1), none⟩ = some (.float .f32 p1) := by rw [← g1]; exact (HBr.out.cell (p := ⟨ba, oa + (j + 1), none⟩) hba).trans hN
        have E0 := Lib.hid e0; have E1 := Lib.hid e1; have G0 := Lib.hid g0; have G1 := Lib.hid g1
        clear hL hM hA hN e0 e1 g0 g1 hw
        have q0 : (j : Int) + 1 < L.length := by omega
        have q1 : (j : Int) < L.length := by omega
        have q2 : (j : Int) + 1 < A.length := by omega
        have q5 : (j : Int) < A.length := by omega
        have q6 : (0 : Int) ≤ (j : Int) + 1 := by omega
        have q7 : IntKind.i64.wrap (j : Int) = j := by rw [IntKind.wrap_i64]; omega
        clear q4
        cases hc1 : (FloatKind.f32.format.order z0 0 == some .lt || FloatKind.f32.format.order z0 0 == some .eq)
        · have HS' : Hid (∀ t, t < j + 1 → crossB L t = false) := Lib.hid fun t ht => by
            rcases Nat.lt_or_ge t j with q | q
            · exact HS.out t q
            · obtain rfl : t = j := by omega
              unfold crossB leB; rw [E0.out, hc1]; rfl
          cases hc2 : (FloatKind.f32.format.order z1 0 == some .gt)
          · go_wp2_with fail
            refine Soft.region (fun _ _ _ => False) (by kernel_rfl) (by kernel_rfl) ?_
            iterate 13 (with_reducible refine Soft.step_k (fun K hK => ?_); go_simp; (try intro nn); (first | with_reducible refine hK _ ?_ | (simp only [undef, reduceCtorEq, if_false]; with_reducible refine hK _ ?_)); clear hK K)
            refine Soft.wpSoft_nil ?_
            intro n2
            go_wp2
            go_roundw
            case rel => exact ⟨j + 1, _, by omega, by go_num, by rw [HW.out, World.drewN_drewN], HS'⟩
            case measure => simp [intOf]; omega
          · go_wp2_with fail
            refine Soft.region (fun _ _ _ => False) (by kernel_rfl) (by kernel_rfl) ?_
            iterate 13 (with_reducible refine Soft.step_k (fun K hK => ?_); go_simp; (try intro nn); (first | with_reducible refine hK _ ?_ | (simp only [undef, reduceCtorEq, if_false]; with_reducible refine hK _ ?_)); clear hK K)
            refine Soft.wpSoft_nil ?_
            intro n2
            go_wp2
            go_roundw
            case rel => exact ⟨j + 1, _, by omega, by go_num, by rw [HW.out, World.drewN_drewN], HS'⟩
            case measure => simp [intOf]; omega
        · cases hc2 : (FloatKind.f32.format.order z1 0 == some .gt)
          · have HS' : Hid (∀ t, t < j + 1 → crossB L t = false) := Lib.hid fun t ht => by
              rcases Nat.lt_or_ge t j with q | q
              · exact HS.out t q
              · obtain rfl : t = j := by omega
                unfold crossB gtB; rw [E1.out, hc2]; simp
            go_wp2_with fail
            refine Soft.region (fun _ _ _ => False) (by kernel_rfl) (by kernel_rfl) ?_
            iterate 13 (with_reducible refine Soft.step_k (fun K hK => ?_); go_simp; (try intro nn); (first | with_reducible refine hK _ ?_ | (simp only [undef, reduceCtorEq, if_false]; with_reducible refine hK _ ?_)); clear hK K)
            refine Soft.wpSoft_nil ?_
            intro n2
            go_wp2
            go_roundw
            case rel => exact ⟨j + 1, _, by omega, by go_num, by rw [HW.out, World.drewN_drewN], HS'⟩
            case measure => simp [intOf]; omega
          · have HC : Hid (crossB L j = true) := Lib.hid (by unfold crossB leB gtB; rw [E0.out, E1.out, hc1, hc2]; rfl)
            go_wp2_with fail
            refine Soft.region (fun _ _ _ => False) (by kernel_rfl) (by kernel_rfl) ?_
            iterate 13 (with_reducible refine Soft.step_k (fun K hK => ?_); go_simp; (try intro nn); (first | with_reducible refine hK _ ?_ | (simp only [undef, reduceCtorEq, if_false]; with_reducible refine hK _ ?_)); clear hK K)
            refine Soft.wpSoft_nil ?_
            intro n2
            obtain ⟨wq, hwq⟩ : ∃ x, x = wr.drewN n2 := ⟨_, rfl⟩
            rw [← hwq]
            replace kr0 : wq.cell? ⟨w.heap.size, 0, none⟩ = some (.slice (some ⟨ba, oa, none⟩) A.length a3) := by rw [hwq]; exact kr0
            replace kr1 : wq.cell? ⟨w.heap.size, 1, none⟩ = some (.slice (some ⟨bl, ol, none⟩) L.length l3) := by rw [hwq]; exact kr1
            replace hL' : wq.cell? ⟨bl, ol + j, none⟩ = some (.float .f32 z0) := by rw [hwq]; exact hL'
            replace hM' : wq.cell? ⟨bl, ol + (j + 1), none⟩ = some (.float .f32 z1) := by rw [hwq]; exact hM'
            replace hA' : wq.cell? ⟨ba, oa + j, none⟩ = some (.float .f32 p0) := by rw [hwq]; exact hA'
            replace hN' : wq.cell? ⟨ba, oa + (j + 1), none⟩ = some (.float .f32 p1) := by rw [hwq]; exact hN'
            replace HBr : Hid (Below w.heap.size w wq) := Lib.hid (by rw [hwq]; exact below_dn HBr.out _)
            clear hwq
            go_wp2_with fail
            refine Soft.region (fun _ _ _ => False) (by kernel_rfl) (by kernel_rfl) ?_
            iterate 13 (with_reducible refine Soft.step_k (fun K hK => ?_); go_simp; (try intro nn); (first | with_reducible refine hK _ ?_ | (simp only [undef, reduceCtorEq, if_false]; with_reducible refine hK _ ?_)); clear hK K)
            refine Soft.wpSoft_nil ?_
            intro n3
            go_wp2_with fail
            refine (impl_checked _ _).mono ?_
            rintro e w5 ⟨rfl, n5, hw5⟩
            obtain ⟨z, o, hz⟩ := numR_shape (crossC A L j)
            simp only [cls_fa]
            have HN : Hid (cop .add .f32 (cls .f32 p0) (cop .mul .f32 (cop .sub .f32 (cls .f32 p1) (cls .f32 p0)) (cop .quo .f32 (cls .f32 z0) (cop .sub .f32 (cls .f32 z0) (cls .f32 z1)))) = crossC A L j) := Lib.hid (by unfold crossC; rw [E0.out, E1.out, G0.out, G1.out])
            rw [HN.out, hz]
            have HZ := Lib.hid hz
            have HB5 : Hid (Below w.heap.size w w5) := Lib.hid (by rw [hw5]; exact below_dn (below_dn HBr.out _) _)
            clear hz hw5
            go_wp2
            go_ret2
            exact .mk' (by rw [zeroR_some HV.out hlt HC.out HS.out, HZ.out]; rfl) HB5.out
      · have HN := Lib.hid (zeroR_none HV.out fun t ht => HS.out t (by omega))
        have q0 : (L.length : Int) ≤ (j : Int) + 1 := by omega
        have q1 : (A.length : Int) ≤ (j : Int) + 1 := by omega
        have kr0 : wr.cell? ⟨w.heap.size, 0, none⟩ = some (.slice a1 A.length a3) := by rw [hw]; exact K1.out.cell 0
        have kr1 : wr.cell? ⟨w.heap.size, 1, none⟩ = some (.slice l1 L.length l3) := by rw [hw]; exact K1.out.cell 1
        clear hw q4
        go_wp2
        go_ret2
        exact .mk' (by rw [HN.out]; rfl) HBr.out

end Go.Proofs.Ytdkgdinbglkjcaa
