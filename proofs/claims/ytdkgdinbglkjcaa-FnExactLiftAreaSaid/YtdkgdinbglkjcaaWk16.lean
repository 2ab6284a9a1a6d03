/- LiftArea: the area below the lifts. -/
import Derived.Test.YtdkgdinbglkjcaaWk14
namespace Go.Proofs.Ytdkgdinbglkjcaa
open Fl Go.RowKit

theorem two_read : Ieee.single.read 0x40000000 = .number false 8388608 (-22) := by decide +kernel
theorem half_read : Ieee.single.read 0x3F000000 = .number false 8388608 (-24) := by decide +kernel

/-- Half a number: divided by 2, or times 1/2. -/
theorem half_two (x : Nat) : floatBits .quo .f32 x 0x40000000 = floatBits .mul .f32 0x3F000000 x := by
  show Ieee.single.div x 0x40000000 = Ieee.single.mul 0x3F000000 x
  rcases kinds Ieee.single x with hf | hi | hn
  · have f2 : fin Ieee.single 0x40000000 := finb_iff.1 (by decide)
    have f1 : fin Ieee.single 0x3F000000 := finb_iff.1 (by decide)
    have g2 : ng Ieee.single 0x40000000 = false := by decide
    have g1 : ng Ieee.single 0x3F000000 = false := by decide
    have m2 : mg Ieee.single (rung Ieee.single 0x40000000) = 2 ^ 23 := by decide
    have p2 : pl Ieee.single (rung Ieee.single 0x40000000) = -22 := by decide
    have n1 : N Ieee.single 0x3F000000 = ((2 ^ 148 : Nat) : Int) := by decide +kernel
    rw [div_fin (by decide) hf f2 (by decide), mul_fin (by decide) f1 hf, g1, g2, Bool.xor_false, Bool.false_xor, m2, p2, n1]
    congr 2
    have hnum : (N Ieee.single x).natAbs = num Ieee.single (rung Ieee.single x) := by have := num_abs Ieee.single x; omega
    rw [Int.natAbs_mul, Int.natAbs_natCast, hnum]
    unfold num
    have hp := pl_ge Ieee.single (rung Ieee.single x)
    have hm := mg_lt Ieee.single (rung Ieee.single x)
    have e1 : Ieee.single.fractionBits = 23 := rfl
    have e2 : Ieee.single.leastPlace = -149 := rfl
    rw [e1] at hm ⊢
    rw [e2] at hp ⊢
    generalize mg Ieee.single (rung Ieee.single x) = m at *
    generalize pl Ieee.single (rung Ieee.single x) = p at *
    by_cases h0 : m = 0
    · subst h0
      have q0 : qdig 23 0 (2 ^ 23) = 0 := by unfold qdig; simp
      rw [q0, Nat.zero_mul, Nat.mul_zero, rg_zero, rg_zero]
    · have hl : m.log2 ≤ 23 := by have := (Nat.log2_lt h0).2 hm; omega
      have hl2 : (2 ^ 23 : Nat).log2 = 23 := by decide
      have hq : qmore 23 m (2 ^ 23) = 48 - m.log2 := by unfold qmore; rw [hl2]
      have hd : qdig 23 m (2 ^ 23) = m * 2 ^ (26 - m.log2) := by
        unfold qdig
        rw [hq, show 48 - m.log2 = (25 - m.log2) + 23 by omega, Nat.pow_add, ← Nat.mul_assoc, Nat.mul_div_cancel _ (Nat.two_pow_pos 23), Nat.mul_mod_left]
        rw [show 26 - m.log2 = (25 - m.log2) + 1 by omega, Nat.pow_succ]
        simp; rw [Nat.mul_comm 2, Nat.mul_assoc]
      have a := rg_scale Ieee.single m (26 - m.log2) (p - 1)
      have b := rg_scale Ieee.single m (148 + (p + 149).toNat) (p - 1)
      rw [hd, hq]
      rw [show p - 1 - ((26 - m.log2 : Nat) : Int) = p - -22 - ((48 - m.log2 : Nat) : Int) - 1 by omega] at a
      rw [show p - 1 - ((148 + (p + 149).toNat : Nat) : Int) = -149 + -149 by omega] at b
      rw [a, ← b]
      congr 1
      rw [show p - -149 = p + 149 by omega, Nat.pow_add]
      exact Nat.mul_left_comm _ _ _
  · unfold Ieee.Format.div Ieee.Format.mul
    rw [read_inf (f := Ieee.single) (by decide) hi, two_read, half_read]
    cases ng Ieee.single x <;> rfl
  · have h1 : floatBits .quo .f32 x 0x40000000 = none := by
      cases h : floatBits .quo .f32 x 0x40000000 with
      | none => rfl
      | some r => have := (floatBits_nan h).1; rw [show nan FloatKind.f32.format x = true from hn] at this; cases this
    have h2 : floatBits .mul .f32 0x3F000000 x = none := by
      cases h : floatBits .mul .f32 0x3F000000 x with
      | none => rfl
      | some r => have := (floatBits_nan h).2.1; rw [show nan FloatKind.f32.format x = true from hn] at this; cases this
    exact h1.trans h2.symm
theorem cop_half (c : Option Nat) : cop .quo .f32 c (some 0x40000000) = cop .mul .f32 (some 0x3F000000) c := by
  cases c with
  | none => rfl
  | some x => exact half_two x
theorem cls_two : cls .f32 0x40000000 = some 0x40000000 := cls_fin (k := .f32) (finb_iff.1 (by decide))
theorem cls_half : cls .f32 0x3F000000 = some 0x3F000000 := cls_fin (k := .f32) (finb_iff.1 (by decide))

/-- The area of the first k fields. -/
def arC (A L : List Nat) : Nat → Option Nat
  | 0 => some 0
  | k + 1 => cop .add .f32 (arC A L k) (cop .mul .f32 (cop .mul .f32 (some 0x3F000000) (cop .add .f32 (cls .f32 (L.getD k 0)) (cls .f32 (L.getD (k + 1) 0)))) (cop .sub .f32 (cls .f32 (A.getD (k + 1) 0)) (cls .f32 (A.getD k 0))))
def areaR (A L D : List Nat) : Value := if validB A L D then numR (arC A L (L.length - 1)) else .tuple #[.float .f32 0, .bool false]
theorem areaR_no {A L D : List Nat} (h : validB A L D = false) : areaR A L D = .tuple #[.float .f32 0, .bool false] := by unfold areaR; rw [h]; rfl
theorem areaR_yes {A L D : List Nat} (h : validB A L D = true) {j : Nat} (hj : L.length = j + 1) : areaR A L D = numR (arC A L j) := by unfold areaR; rw [h, if_pos rfl, hj]; rfl
theorem areaR_shape (A L D : List Nat) : ∃ (z : Nat) (o : Bool), areaR A L D = .tuple #[.float .f32 z, .bool o] := by
  unfold areaR
  split
  · exact numR_shape _
  · exact ⟨_, _, rfl⟩

set_option maxRecDepth 8000 in
set_option maxHeartbeats 1600000 in
theorem spec_LiftArea (w : World) (v : Value) (A L D : List Nat) (h : PS w v A L D) : Calls Try.prog 41 #[v] w (RetB (areaR A L D) w) := by
  obtain ⟨a1, a2, a3, l1, l2, l3, d1, d2, d3, rfl, fa, fl, fd⟩ := h.shape
  have FA := Lib.hid fa; have FL := Lib.hid fl; have FD := Lib.hid fd; have P := Lib.hid h
  obtain ⟨rfl, ma, CA⟩ := fa.at
  obtain ⟨rfl, ml, CL⟩ := fl.at
  clear fa fl fd h ma ml
  have KP := Lib.hid (Blk.new w #[Value.slice a1 A.length a3, Value.slice l1 L.length l3, Value.slice d1 d2 d3] 36)
  have HB : Hid (Below w.heap.size w (w.alloc (Obj.cells #[Value.slice a1 A.length a3, Value.slice l1 L.length l3, Value.slice d1 d2 d3] 36))) := Lib.hid ((Below.refl _ _).alloc (Nat.le_refl _) _)
  cases hv : validB A L D
  · have HV := Lib.hid hv; clear hv
    rw [areaR_no HV.out]
    go_enter Try.func41, Try.ntmps41
    go_wp2_with fail
    refine (spec_l02Is _ _ _ _ _ A L D KP.out (FA.out.later HB.out) (FL.out.later HB.out) (FD.out.later HB.out)).mono ?_
    rintro e w1 ⟨rfl, n1, hw1⟩
    rw [HV.out]
    have HB1 : Hid (Below w.heap.size w w1) := Lib.hid (by rw [hw1]; exact below_dn HB.out _)
    have K1 : Hid (Blk w1 w.heap.size #[Value.slice a1 A.length a3, Value.slice l1 L.length l3, Value.slice d1 d2 d3] 36) := Lib.hid (by rw [hw1]; exact KP.out)
    clear hw1
    go_wp2
    go_ret2
    exact .mk' rfl HB1.out
  · have HV := Lib.hid hv
    obtain ⟨s1, s2, s3, s4⟩ := sizes_spec (valid_sizes hv)
    have H1 := Lib.hid s1; have H2 := Lib.hid s2; have H3 := Lib.hid s3; have H4 := Lib.hid s4
    clear hv s1 s2 s3 s4
    go_enter Try.func41, Try.ntmps41
    go_wp2_with fail
    refine (spec_l02Is _ _ _ _ _ A L D KP.out (FA.out.later HB.out) (FL.out.later HB.out) (FD.out.later HB.out)).mono ?_
    rintro e w1 ⟨rfl, n1, hw1⟩
    rw [HV.out]
    have HB1 : Hid (Below w.heap.size w w1) := Lib.hid (by rw [hw1]; exact below_dn HB.out _)
    have K1 : Hid (Blk w1 w.heap.size #[Value.slice a1 A.length a3, Value.slice l1 L.length l3, Value.slice d1 d2 d3] 36) := Lib.hid (by rw [hw1]; exact KP.out)
    clear hw1
    go_wp2_with fail
    go_loopw [4, 5] (fun a i wr => ∃ j n r : Nat, j + 1 ≤ L.length ∧ a = .float .f32 r ∧ cls .f32 r = arC A L j ∧ i = .int .i64 ((j : Int) + 1) ∧ wr = w1.drewN n) (fun _ i _ => L.length - (intOf i).toNat)
    case atStart => exact ⟨0, 0, 0, by have := H1.out; have := H3.out; omega, rfl, cls_zero _, rfl, rfl⟩
    case round =>
      obtain ⟨j, n, r, hk, rfl, hr, rfl, hw⟩ := hrel
      have HR := Lib.hid hr; clear hr
      have HBr : Hid (Below w.heap.size w wr) := Lib.hid (by rw [hw]; exact below_dn HB1.out _)
      have HW := Lib.hid hw
      have q3 : (L.length : Int) ≤ 24 := by have := H2.out; have := H3.out; omega
      have q4 : (A.length : Int) = L.length := by have := H3.out; omega
      by_cases hlt : j + 1 < L.length
      · obtain ⟨bl, ol, rfl, hbl, hL⟩ := CL.out j (by omega)
        obtain ⟨b', o', e', _, hM⟩ := CL.out (j + 1) hlt
        cases e'
        obtain ⟨ba, oa, rfl, hba, hA⟩ := CA.out j (by have := H3.out; omega)
        obtain ⟨b', o', e', _, hN⟩ := CA.out (j + 1) (by have := H3.out; omega)
        cases e'
        have kr0 : wr.cell? ⟨w.heap.size, 0, none⟩ = some (.slice (some ⟨ba, oa, none⟩) A.length a3) := by rw [hw]; exact K1.out.cell 0
        have kr1 : wr.cell? ⟨w.heap.size, 1, none⟩ = some (.slice (some ⟨bl, ol, none⟩) L.length l3) := by rw [hw]; exact K1.out.cell 1
        have HE : Hid (arC A L (j + 1) = cop .add .f32 (arC A L j) (cop .mul .f32 (cop .mul .f32 (some 0x3F000000) (cop .add .f32 (cls .f32 (L.getD j 0)) (cls .f32 (L.getD (j + 1) 0)))) (cop .sub .f32 (cls .f32 (A.getD (j + 1) 0)) (cls .f32 (A.getD j 0))))) := Lib.hid rfl
        obtain ⟨z0, e0⟩ : ∃ z, L.getD j 0 = z := ⟨_, rfl⟩
        obtain ⟨z1, e1⟩ : ∃ z, L.getD (j + 1) 0 = z := ⟨_, rfl⟩
        obtain ⟨p0, g0⟩ : ∃ z, A.getD j 0 = z := ⟨_, rfl⟩
        obtain ⟨p1, g1⟩ : ∃ z, A.getD (j + 1) 0 = z := ⟨_, rfl⟩
        have hL' : wr.cell? ⟨bl, ol + j, none⟩ = some (.float .f32 z0) := by rw [← e0]; exact (HBr.out.cell (p := ⟨bl, ol + j, none⟩) hbl).trans hL
        have hM' : wr.cell? ⟨bl, ol + (j + 1), none⟩ = some (.float .f32 z1) := by rw [← e1]; exact (HBr.out.cell (p := ⟨bl, ol + (j + 1), none⟩) hbl).trans hM
        have hA' : wr.cell? ⟨ba, oa + j, none⟩ = some (.float .f32 p0) := by rw [← g0]; exact (HBr.out.cell (p := ⟨ba, oa + j, none⟩) hba).trans hA
        have hN' : wr.cell? ⟨ba, oa + (j + 1), none⟩ = some (.float .f32 p1) := by rw [← g1]; exact (HBr.out.cell (p := ⟨ba, oa + (j + 1), none⟩) hba).trans hN
        rw [e0, e1, g0, g1] at HE
        clear hL hM hA hN e0 e1 g0 g1 hw
        have q0 : (j : Int) + 1 < L.length := by omega
        have q1 : (j : Int) < L.length := by omega
        have q2 : (j : Int) + 1 < A.length := by omega
        have q5 : (j : Int) < A.length := by omega
        have q6 : (0 : Int) ≤ (j : Int) + 1 := by omega
        have q7 : IntKind.i64.wrap (j : Int) = j := by rw [IntKind.wrap_i64]; omega
        clear q4
        go_wp2_with fail
        refine Soft.region (fun _ _ _ => False) (by kernel_rfl) (by kernel_rfl) ?_
        iterate 14 (with_reducible refine Soft.step_k (fun K hK => ?_); go_simp; (try intro nn); (first | with_reducible refine hK _ ?_ | (simp only [undef, reduceCtorEq, if_false]; with_reducible refine hK _ ?_)); clear hK K)
        refine Soft.wpSoft_nil ?_
        intro n2
        obtain ⟨wq, hwq⟩ : ∃ x, x = wr.drewN n2 := ⟨_, rfl⟩
        rw [← hwq]
        replace kr0 : wq.cell? ⟨w.heap.size, 0, none⟩ = some (.slice (some ⟨ba, oa, none⟩) A.length a3) := by rw [hwq]; exact kr0
        replace kr1 : wq.cell? ⟨w.heap.size, 1, none⟩ = some (.slice (some ⟨bl, ol, none⟩) L.length l3) := by rw [hwq]; exact kr1
        replace hL' : wq.cell? ⟨bl, ol + j, none⟩ = some (.float .f32 z0) := by rw [hwq]; exact hL'
        replace hM' : wq.cell? ⟨bl, ol + (j + 1), none⟩ = some (.float .f32 z1) := by rw [hwq]; exact hM'
        replace hA' : wq.cell? ⟨ba, oa + j, none⟩ = some (.float .f32 p0) := by rw [hwq]; exact hA'
        replace hN' : wq.cell? ⟨ba, oa + (j + 1), none⟩ = some (.float .f32 p1) := by rw [hwq]; exact hN'
        have HWQ : Hid (wq = w1.drewN (n + n2)) := Lib.hid (by rw [hwq, HW.out, World.drewN_drewN])
        clear hwq
        go_wp2_with fail
        refine Soft.region (fun _ _ _ => False) (by kernel_rfl) (by kernel_rfl) ?_
        iterate 17 (with_reducible refine Soft.step_k (fun K hK => ?_); go_simp; (try intro nn); (first | with_reducible refine hK _ ?_ | (simp only [undef, reduceCtorEq, if_false]; with_reducible refine hK _ ?_)); clear hK K)
        refine Soft.wpSoft_nil ?_
        intro n3
        go_wp2
        go_roundw
        case rel => exact ⟨j + 1, _, _, by omega, rfl, by simp only [cls_fa, HR.out, cls_half]; exact HE.out.symm, by go_num, by rw [HWQ.out, World.drewN_drewN]⟩
        case measure => simp [intOf]; omega
      · have HL : Hid (L.length = j + 1) := Lib.hid (by omega)
        have q0 : (L.length : Int) ≤ (j : Int) + 1 := by omega
        have q1 : (A.length : Int) ≤ (j : Int) + 1 := by omega
        have kr0 : wr.cell? ⟨w.heap.size, 0, none⟩ = some (.slice a1 A.length a3) := by rw [hw]; exact K1.out.cell 0
        have kr1 : wr.cell? ⟨w.heap.size, 1, none⟩ = some (.slice l1 L.length l3) := by rw [hw]; exact K1.out.cell 1
        clear hw q4
        go_wp2_with fail
        refine (spec_l02Number _ _).mono ?_
        rintro e w5 ⟨rfl, n5, hw5⟩
        obtain ⟨z, o, hz⟩ := numR_shape (arC A L j)
        rw [HR.out, hz]
        have HZ := Lib.hid hz
        have HB5 : Hid (Below w.heap.size w w5) := Lib.hid (by rw [hw5]; exact below_dn HBr.out _)
        clear hz hw5
        go_wp2
        go_ret2
        exact .mk' (by rw [areaR_yes HV.out HL.out, HZ.out]; rfl) HB5.out

set_option maxRecDepth 8000 in
set_option maxHeartbeats 1600000 in
theorem impl_LiftArea (w : World) (v : Value) (A L D : List Nat) (h : PS w v A L D) : Calls Try.prog 42 #[v] w (RetB (areaR A L D) w) := by
  obtain ⟨a1, a2, a3, l1, l2, l3, d1, d2, d3, rfl, fa, fl, fd⟩ := h.shape
  have FA := Lib.hid fa; have FL := Lib.hid fl; have FD := Lib.hid fd; have P := Lib.hid h
  obtain ⟨rfl, ma, CA⟩ := fa.at
  obtain ⟨rfl, ml, CL⟩ := fl.at
  clear fa fl fd h ma ml
  have KP := Lib.hid (Blk.new w #[Value.slice a1 A.length a3, Value.slice l1 L.length l3, Value.slice d1 d2 d3] 36)
  have HB : Hid (Below w.heap.size w (w.alloc (Obj.cells #[Value.slice a1 A.length a3, Value.slice l1 L.length l3, Value.slice d1 d2 d3] 36))) := Lib.hid ((Below.refl _ _).alloc (Nat.le_refl _) _)
  cases hv : validB A L D
  · have HV := Lib.hid hv; clear hv
    rw [areaR_no HV.out]
    go_enter Try.func42, Try.ntmps42
    go_wp2_with fail
    refine (impl_ValidProfile _ _ A L D (P.out.later HB.out)).mono ?_
    rintro e w1 ⟨rfl, hb⟩
    rw [HV.out]
    have HB1 := Lib.hid (HB.out.trans (hb.mono HB.out.size))
    have K1 := Lib.hid (KP.out.later hb)
    clear hb
    go_wp2
    go_ret2
    exact .mk' rfl HB1.out
  · have HV := Lib.hid hv
    obtain ⟨s1, s2, s3, s4⟩ := sizes_spec (valid_sizes hv)
    have H1 := Lib.hid s1; have H2 := Lib.hid s2; have H3 := Lib.hid s3; have H4 := Lib.hid s4
    clear hv s1 s2 s3 s4
    go_enter Try.func42, Try.ntmps42
    go_wp2_with fail
    refine (impl_ValidProfile _ _ A L D (P.out.later HB.out)).mono ?_
    rintro e w1 ⟨rfl, hb⟩
    rw [HV.out]
    have HB1 := Lib.hid (HB.out.trans (hb.mono HB.out.size))
    have K1 := Lib.hid (KP.out.later hb)
    clear hb
    go_wp2_with fail
    go_loopw [4, 5] (fun a i wr => ∃ j n r : Nat, j + 1 ≤ L.length ∧ a = .float .f32 r ∧ cls .f32 r = arC A L j ∧ i = .int .i64 ((j : Int) + 1) ∧ wr = w1.drewN n) (fun _ i _ => L.length - (intOf i).toNat)
    case atStart => exact ⟨0, 0, 0, by have := H1.out; have := H3.out; omega, rfl, cls_zero _, rfl, rfl⟩
    case round =>
      obtain ⟨j, n, r, hk, rfl, hr, rfl, hw⟩ := hrel
      have HR := Lib.hid hr; clear hr
      have HBr : Hid (Below w.heap.size w wr) := Lib.hid (by rw [hw]; exact below_dn HB1.out _)
      have HW := Lib.hid hw
      have q3 : (L.length : Int) ≤ 24 := by have := H2.out; have := H3.out; omega
      have q4 : (A.length : Int) = L.length := by have := H3.out; omega
      by_cases hlt : j + 1 < L.length
      · obtain ⟨bl, ol, rfl, hbl, hL⟩ := CL.out j (by omega)
        obtain ⟨b', o', e', _, hM⟩ := CL.out (j + 1) hlt
        cases e'
        obtain ⟨ba, oa, rfl, hba, hA⟩ := CA.out j (by have := H3.out; omega)
        obtain ⟨b', o', e', _, hN⟩ := CA.out (j + 1) (by have := H3.out; omega)
        cases e'
        have kr0 : wr.cell? ⟨w.heap.size, 0, none⟩ = some (.slice (some ⟨ba, oa, none⟩) A.length a3) := by rw [hw]; exact K1.out.cell 0
        have kr1 : wr.cell? ⟨w.heap.size, 1, none⟩ = some (.slice (some ⟨bl, ol, none⟩) L.length l3) := by rw [hw]; exact K1.out.cell 1
        have HE : Hid (arC A L (j + 1) = cop .add .f32 (arC A L j) (cop .mul .f32 (cop .mul .f32 (some 0x3F000000) (cop .add .f32 (cls .f32 (L.getD j 0)) (cls .f32 (L.getD (j + 1) 0)))) (cop .sub .f32 (cls .f32 (A.getD (j + 1) 0)) (cls .f32 (A.getD j 0))))) := Lib.hid rfl
        obtain ⟨z0, e0⟩ : ∃ z, L.getD j 0 = z := ⟨_, rfl⟩
        obtain ⟨z1, e1⟩ : ∃ z, L.getD (j + 1) 0 = z := ⟨_, rfl⟩
        obtain ⟨p0, g0⟩ : ∃ z, A.getD j 0 = z := ⟨_, rfl⟩
        obtain ⟨p1, g1⟩ : ∃ z, A.getD (j + 1) 0 = z := ⟨_, rfl⟩
        have hL' : wr.cell? ⟨bl, ol + j, none⟩ = some (.float .f32 z0) := by rw [← e0]; exact (HBr.out.cell (p := ⟨bl, ol + j, none⟩) hbl).trans hL
        have hM' : wr.cell? ⟨bl, ol + (j + 1), none⟩ = some (.float .f32 z1) := by rw [← e1]; exact (HBr.out.cell (p := ⟨bl, ol + (j + 1), none⟩) hbl).trans hM
        have hA' : wr.cell? ⟨ba, oa + j, none⟩ = some (.float .f32 p0) := by rw [← g0]; exact (HBr.out.cell (p := ⟨ba, oa + j, none⟩) hba).trans hA
        have hN' : wr.cell? ⟨ba, oa + (j + 1), none⟩ = some (.float .f32 p1) := by rw [← g1]; exact (HBr.out.cell (p := ⟨ba, oa + (j + 1), none⟩) hba).trans hN
        rw [e0, e1, g0, g1] at HE
        clear hL hM hA hN e0 e1 g0 g1 hw
        have q0 : (j : Int) + 1 < L.length := by omega
        have q1 : (j : Int) < L.length := by omega
        have q2 : (j : Int) + 1 < A.length := by omega
        have q5 : (j : Int) < A.length := by omega
        have q6 : (0 : Int) ≤ (j : Int) + 1 := by omega
        have q7 : IntKind.i64.wrap (j : Int) = j := by rw [IntKind.wrap_i64]; omega
        clear q4
        go_wp2_with fail
        refine Soft.region (fun _ _ _ => False) (by kernel_rfl) (by kernel_rfl) ?_
        iterate 14 (with_reducible refine Soft.step_k (fun K hK => ?_); go_simp; (try intro nn); (first | with_reducible refine hK _ ?_ | (simp only [undef, reduceCtorEq, if_false]; with_reducible refine hK _ ?_)); clear hK K)
        refine Soft.wpSoft_nil ?_
        intro n2
        obtain ⟨wq, hwq⟩ : ∃ x, x = wr.drewN n2 := ⟨_, rfl⟩
        rw [← hwq]
        replace kr0 : wq.cell? ⟨w.heap.size, 0, none⟩ = some (.slice (some ⟨ba, oa, none⟩) A.length a3) := by rw [hwq]; exact kr0
        replace kr1 : wq.cell? ⟨w.heap.size, 1, none⟩ = some (.slice (some ⟨bl, ol, none⟩) L.length l3) := by rw [hwq]; exact kr1
        replace hL' : wq.cell? ⟨bl, ol + j, none⟩ = some (.float .f32 z0) := by rw [hwq]; exact hL'
        replace hM' : wq.cell? ⟨bl, ol + (j + 1), none⟩ = some (.float .f32 z1) := by rw [hwq]; exact hM'
        replace hA' : wq.cell? ⟨ba, oa + j, none⟩ = some (.float .f32 p0) := by rw [hwq]; exact hA'
        replace hN' : wq.cell? ⟨ba, oa + (j + 1), none⟩ = some (.float .f32 p1) := by rw [hwq]; exact hN'
        have HWQ : Hid (wq = w1.drewN (n + n2)) := Lib.hid (by rw [hwq, HW.out, World.drewN_drewN])
        clear hwq
        go_wp2_with fail
        refine Soft.region (fun _ _ _ => False) (by kernel_rfl) (by kernel_rfl) ?_
        iterate 17 (with_reducible refine Soft.step_k (fun K hK => ?_); go_simp; (try intro nn); (first | with_reducible refine hK _ ?_ | (simp only [undef, reduceCtorEq, if_false]; with_reducible refine hK _ ?_)); clear hK K)
        refine Soft.wpSoft_nil ?_
        intro n3
        go_wp2
        go_roundw
        case rel => exact ⟨j + 1, _, _, by omega, rfl, by simp only [cls_fa, HR.out, cls_two, cop_half]; exact HE.out.symm, by go_num, by rw [HWQ.out, World.drewN_drewN]⟩
        case measure => simp [intOf]; omega
      · have HL : Hid (L.length = j + 1) := Lib.hid (by omega)
        have q0 : (L.length : Int) ≤ (j : Int) + 1 := by omega
        have q1 : (A.length : Int) ≤ (j : Int) + 1 := by omega
        have kr0 : wr.cell? ⟨w.heap.size, 0, none⟩ = some (.slice a1 A.length a3) := by rw [hw]; exact K1.out.cell 0
        have kr1 : wr.cell? ⟨w.heap.size, 1, none⟩ = some (.slice l1 L.length l3) := by rw [hw]; exact K1.out.cell 1
        clear hw q4
        go_wp2_with fail
        refine (impl_checked _ _).mono ?_
        rintro e w5 ⟨rfl, n5, hw5⟩
        obtain ⟨z, o, hz⟩ := numR_shape (arC A L j)
        rw [HR.out, hz]
        have HZ := Lib.hid hz
        have HB5 : Hid (Below w.heap.size w w5) := Lib.hid (by rw [hw5]; exact below_dn HBr.out _)
        clear hz hw5
        go_wp2
        go_ret2
        exact .mk' (by rw [areaR_yes HV.out HL.out, HZ.out]; rfl) HB5.out

end Go.Proofs.Ytdkgdinbglkjcaa
