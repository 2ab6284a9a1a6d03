/- BestGlide: the knot of the greatest glide. -/
import Derived.Test.YtdkgdinbglkjcaaWk14
namespace Go.Proofs.Ytdkgdinbglkjcaa
open Fl Go.RowKit

/-- The glide at a knot; none where there is none. -/
def glC (L D : List Nat) (k : Nat) : Option Nat := floatBits .quo .f32 (L.getD k 0) (D.getD k 0)
/-- The best among the first k: its place (below nought: none) and its glide. -/
def glS (L D : List Nat) : Nat → Int × Nat
  | 0 => (-1, 0)
  | k + 1 => match glC L D k with
    | none => glS L D k
    | some r => if decide ((glS L D k).1 < 0) || gtB r (glS L D k).2 then ((k : Int), r) else glS L D k
theorem glS_none {L D : List Nat} {k : Nat} (h : glC L D k = none) : glS L D (k + 1) = glS L D k := by
  show (match glC L D k with | none => glS L D k | some r => _) = _
  rw [h]
theorem glS_new {L D : List Nat} {k : Nat} (r : Nat) (h : glC L D k = some r) (hc : (decide ((glS L D k).1 < 0) || gtB r (glS L D k).2) = true) : glS L D (k + 1) = ((k : Int), r) := by
  show (match glC L D k with | none => glS L D k | some r => _) = _
  rw [h]; simp only; rw [hc]; rfl
theorem glS_old {L D : List Nat} {k : Nat} (r : Nat) (h : glC L D k = some r) (hc : (decide ((glS L D k).1 < 0) || gtB r (glS L D k).2) = false) : glS L D (k + 1) = glS L D k := by
  show (match glC L D k with | none => glS L D k | some r => _) = _
  rw [h]; simp only; rw [hc]; rfl
theorem glS_range (L D : List Nat) : ∀ k : Nat, -1 ≤ (glS L D k).1 ∧ (glS L D k).1 < k ∨ k = 0 ∧ (glS L D k).1 = -1
  | 0 => .inr ⟨rfl, rfl⟩
  | k + 1 => by
    left
    have ih := glS_range L D k
    cases h : glC L D k with
    | none => rw [glS_none h]; omega
    | some r =>
      cases hc : (decide ((glS L D k).1 < 0) || gtB r (glS L D k).2)
      · rw [glS_old r h hc]; omega
      · rw [glS_new r h hc]; simp only; omega
theorem glS_lo (L D : List Nat) (k : Nat) : -1 ≤ (glS L D k).1 ∧ (glS L D k).1 ≤ k := by have := glS_range L D k; omega

/-- What the division gives. -/
theorem gl_cases (a b : Nat) : (∃ r, floatBits .quo .f32 a b = some r ∧ (∀ w, fa .quo .f32 a b w = r) ∧ (FloatKind.f32.format.order r r == some .eq) = true) ∨
    (floatBits .quo .f32 a b = none ∧ ∀ w, (FloatKind.f32.format.order (fa .quo .f32 a b w) (fa .quo .f32 a b w) == some .eq) = false) := by
  cases h : floatBits .quo .f32 a b with
  | some r =>
    refine .inl ⟨r, rfl, fun w => by unfold fa; rw [h], ?_⟩
    rw [Fl.eq_self, (floatBits_nan h).2.2]; rfl
  | none =>
    refine .inr ⟨rfl, fun w => ?_⟩
    rw [Fl.eq_self]
    have : nan FloatKind.f32.format (fa .quo .f32 a b w) = true := by unfold fa; rw [h]; exact nan_cut _ _ _ (.inl ⟨_, _, rfl⟩)
    rw [this]; rfl

def glideR (A L D : List Nat) : Value := if validB A L D then
    if decide ((glS L D L.length).1 < 0) || !finb FloatKind.f32.format (glS L D L.length).2 then .tuple #[.int .i64 0, .float .f32 0, .bool false]
    else .tuple #[.int .i64 (glS L D L.length).1, .float .f32 (glS L D L.length).2, .bool true]
  else .tuple #[.int .i64 0, .float .f32 0, .bool false]
theorem glideR_no {A L D : List Nat} (h : validB A L D = false) : glideR A L D = .tuple #[.int .i64 0, .float .f32 0, .bool false] := by unfold glideR; rw [h]; rfl
theorem glideR_neg {A L D : List Nat} (h : validB A L D = true) (h1 : (glS L D L.length).1 < 0) : glideR A L D = .tuple #[.int .i64 0, .float .f32 0, .bool false] := by
  unfold glideR; rw [h, if_pos rfl, decide_eq_true h1]; rfl
theorem glideR_inf {A L D : List Nat} (h : validB A L D = true) (h2 : finb FloatKind.f32.format (glS L D L.length).2 = false) : glideR A L D = .tuple #[.int .i64 0, .float .f32 0, .bool false] := by
  unfold glideR; rw [h, if_pos rfl, h2]; simp
theorem glideR_yes {A L D : List Nat} (h : validB A L D = true) (h1 : ¬ (glS L D L.length).1 < 0) (h2 : finb FloatKind.f32.format (glS L D L.length).2 = true) : glideR A L D = .tuple #[.int .i64 (glS L D L.length).1, .float .f32 (glS L D L.length).2, .bool true] := by
  unfold glideR; rw [h, if_pos rfl, h2, decide_eq_false h1]; rfl
theorem glideR_shape (A L D : List Nat) : ∃ (b : Int) (z : Nat) (o : Bool), glideR A L D = .tuple #[.int .i64 b, .float .f32 z, .bool o] := by
  unfold glideR
  split
  · split
    · exact ⟨_, _, _, rfl⟩
    · exact ⟨_, _, _, rfl⟩
  · exact ⟨_, _, _, rfl⟩

set_option maxRecDepth 8000 in
set_option maxHeartbeats 1600000 in
theorem spec_BestGlide (w : World) (v : Value) (A L D : List Nat) (h : PS w v A L D) : Calls Try.prog 39 #[v] w (RetB (glideR A L D) w) := by
  obtain ⟨a1, a2, a3, l1, l2, l3, d1, d2, d3, rfl, fa, fl, fd⟩ := h.shape
  have FA := Lib.hid fa; have FL := Lib.hid fl; have FD := Lib.hid fd; have P := Lib.hid h
  obtain ⟨rfl, ma, CA⟩ := fa.at
  obtain ⟨rfl, ml, CL⟩ := fl.at
  obtain ⟨rfl, md, CD⟩ := fd.at
  clear fa fl fd h ma ml md
  have KP := Lib.hid (Blk.new w #[Value.slice a1 A.length a3, Value.slice l1 L.length l3, Value.slice d1 D.length d3] 36)
  have HB : Hid (Below w.heap.size w (w.alloc (Obj.cells #[Value.slice a1 A.length a3, Value.slice l1 L.length l3, Value.slice d1 D.length d3] 36))) := Lib.hid ((Below.refl _ _).alloc (Nat.le_refl _) _)
  cases hv : validB A L D
  · have HV := Lib.hid hv; clear hv
    rw [glideR_no HV.out]
    go_enter Try.func39, Try.ntmps39
    go_wp2_with fail
    refine (spec_l02Is _ _ _ _ _ A L D KP.out (FA.out.later HB.out) (FL.out.later HB.out) (FD.out.later HB.out)).mono ?_
    rintro e w1 ⟨rfl, n1, hw1⟩
    rw [HV.out]
    have HB1 : Hid (Below w.heap.size w w1) := Lib.hid (by rw [hw1]; exact below_dn HB.out _)
    have K1 : Hid (Blk w1 w.heap.size #[Value.slice a1 A.length a3, Value.slice l1 L.length l3, Value.slice d1 D.length d3] 36) := Lib.hid (by rw [hw1]; exact KP.out)
    clear hw1
    go_wp2
    go_ret3
    exact .mk' rfl HB1.out
  · have HV := Lib.hid hv
    obtain ⟨s1, s2, s3, s4⟩ := sizes_spec (valid_sizes hv)
    have H1 := Lib.hid s1; have H2 := Lib.hid s2; have H3 := Lib.hid s3; have H4 := Lib.hid s4
    clear hv s1 s2 s3 s4
    go_enter Try.func39, Try.ntmps39
    go_wp2_with fail
    refine (spec_l02Is _ _ _ _ _ A L D KP.out (FA.out.later HB.out) (FL.out.later HB.out) (FD.out.later HB.out)).mono ?_
    rintro e w1 ⟨rfl, n1, hw1⟩
    rw [HV.out]
    have HB1 : Hid (Below w.heap.size w w1) := Lib.hid (by rw [hw1]; exact below_dn HB.out _)
    have K1 : Hid (Blk w1 w.heap.size #[Value.slice a1 A.length a3, Value.slice l1 L.length l3, Value.slice d1 D.length d3] 36) := Lib.hid (by rw [hw1]; exact KP.out)
    clear hw1
    go_wp2_with fail
    go_loopw [5, 6, 7] (fun s m i wr => ∃ k n : Nat, k ≤ L.length ∧ s = .int .i64 (glS L D k).1 ∧ m = .float .f32 (glS L D k).2 ∧ i = .int .i64 k ∧ wr = w1.drewN n) (fun _ _ i _ => L.length - (intOf i).toNat)
    case atStart => exact ⟨0, 0, Nat.zero_le _, rfl, rfl, rfl, rfl⟩
    case round =>
      obtain ⟨k, n, hk, rfl, rfl, rfl, hw⟩ := hrel
      have HBr : Hid (Below w.heap.size w wr) := Lib.hid (by rw [hw]; exact below_dn HB1.out _)
      have HW := Lib.hid hw
      obtain ⟨g1, g2⟩ := glS_lo L D k
      have q3 : (L.length : Int) ≤ 24 := by have := H2.out; have := H3.out; omega
      by_cases hlt : k < L.length
      · have GN := Lib.hid (glS_none (L := L) (D := D) (k := k)); have GW := Lib.hid (@glS_new L D k); have GO := Lib.hid (@glS_old L D k)
        have GC : Hid (glC L D k = floatBits .quo .f32 (L.getD k 0) (D.getD k 0)) := Lib.hid rfl
        obtain ⟨b, m, hbm⟩ : ∃ b m, glS L D k = (b, m) := ⟨_, _, rfl⟩
        rw [hbm] at GN GW GO g1 g2 ⊢
        simp only at g1 g2 ⊢
        clear hbm
        obtain ⟨bl, ol, rfl, hbl, hL⟩ := CL.out k hlt
        obtain ⟨bd, od, rfl, hbd, hD⟩ := CD.out k (by have := H4.out; have := H3.out; omega)
        have kr0 : wr.cell? ⟨w.heap.size, 0, none⟩ = some (.slice a1 A.length a3) := by rw [hw]; exact K1.out.cell 0
        have kr1 : wr.cell? ⟨w.heap.size, 1, none⟩ = some (.slice (some ⟨bl, ol, none⟩) L.length l3) := by rw [hw]; exact K1.out.cell 1
        have kr2 : wr.cell? ⟨w.heap.size, 2, none⟩ = some (.slice (some ⟨bd, od, none⟩) D.length d3) := by rw [hw]; exact K1.out.cell 2
        obtain ⟨zl, el⟩ : ∃ z, L.getD k 0 = z := ⟨_, rfl⟩
        obtain ⟨zd, ed⟩ : ∃ z, D.getD k 0 = z := ⟨_, rfl⟩
        have hL' : wr.cell? ⟨bl, ol + k, none⟩ = some (.float .f32 zl) := by rw [← el]; exact (HBr.out.cell (p := ⟨bl, ol + k, none⟩) hbl).trans hL
        have hD' : wr.cell? ⟨bd, od + k, none⟩ = some (.float .f32 zd) := by rw [← ed]; exact (HBr.out.cell (p := ⟨bd, od + k, none⟩) hbd).trans hD
        rw [el, ed] at GC
        clear hL hD el ed hw
        have q0 : (k : Int) < L.length := by omega
        have q1 : (k : Int) < D.length := by have := H4.out; have := H3.out; omega
        have q2 : (k : Int) < A.length := by have := H3.out; omega
        rcases gl_cases zl zd with ⟨r, hr, kf, ke⟩ | ⟨hr, ke⟩
        · have HR : Hid (glC L D k = some r) := Lib.hid (by rw [GC.out, hr])
          clear hr
          by_cases hb : b < 0
          · have HN : Hid (glS L D (k + 1) = ((k : Int), r)) := Lib.hid (GW.out _ HR.out (by rw [decide_eq_true hb]; rfl))
            clear GN GW GO GC
            go_wp2_with fail
            refine Soft.region (fun _ _ _ => False) (by kernel_rfl) (by kernel_rfl) ?_
            iterate 12 (with_reducible refine Soft.step_k (fun K hK => ?_); go_simp; (try intro nn); (first | with_reducible refine hK _ ?_ | (simp only [undef, reduceCtorEq, if_false]; with_reducible refine hK _ ?_)); clear hK K)
            refine Soft.wpSoft_nil ?_
            intro n2
            go_wp2
            go_roundw
            case rel => exact ⟨k + 1, _, by omega, by rw [HN.out], by rw [HN.out], by go_num, (by first | exact HW.out | rw [HW.out, World.drewN_drewN])⟩
            case measure => simp [intOf]; omega
          · cases hg : (FloatKind.f32.format.order r m == some .gt)
            · have HN : Hid (glS L D (k + 1) = (b, m)) := Lib.hid (GO.out _ HR.out (by rw [decide_eq_false hb]; exact hg))
              clear GN GW GO GC
              go_wp2_with fail
              refine Soft.region (fun _ _ _ => False) (by kernel_rfl) (by kernel_rfl) ?_
              iterate 12 (with_reducible refine Soft.step_k (fun K hK => ?_); go_simp; (try intro nn); (first | with_reducible refine hK _ ?_ | (simp only [undef, reduceCtorEq, if_false]; with_reducible refine hK _ ?_)); clear hK K)
              refine Soft.wpSoft_nil ?_
              intro n2
              go_wp2
              go_roundw
              case rel => exact ⟨k + 1, _, by omega, by rw [HN.out], by rw [HN.out], by go_num, (by first | exact HW.out | rw [HW.out, World.drewN_drewN])⟩
              case measure => simp [intOf]; omega
            · have HN : Hid (glS L D (k + 1) = ((k : Int), r)) := Lib.hid (GW.out _ HR.out (by rw [decide_eq_false hb]; exact hg))
              clear GN GW GO GC
              go_wp2_with fail
              refine Soft.region (fun _ _ _ => False) (by kernel_rfl) (by kernel_rfl) ?_
              iterate 12 (with_reducible refine Soft.step_k (fun K hK => ?_); go_simp; (try intro nn); (first | with_reducible refine hK _ ?_ | (simp only [undef, reduceCtorEq, if_false]; with_reducible refine hK _ ?_)); clear hK K)
              refine Soft.wpSoft_nil ?_
              intro n2
              go_wp2
              go_roundw
              case rel => exact ⟨k + 1, _, by omega, by rw [HN.out], by rw [HN.out], by go_num, (by first | exact HW.out | rw [HW.out, World.drewN_drewN])⟩
              case measure => simp [intOf]; omega
        · have HN : Hid (glS L D (k + 1) = (b, m)) := Lib.hid (GN.out (by rw [GC.out, hr]))
          clear GN GW GO GC hr
          go_wp2_with fail
          refine Soft.region (fun _ _ _ => False) (by kernel_rfl) (by kernel_rfl) ?_
          iterate 12 (with_reducible refine Soft.step_k (fun K hK => ?_); go_simp; (try intro nn); (first | with_reducible refine hK _ ?_ | (simp only [undef, reduceCtorEq, if_false]; with_reducible refine hK _ ?_)); clear hK K)
          refine Soft.wpSoft_nil ?_
          intro n2
          go_wp2
          go_roundw
          case rel => exact ⟨k + 1, _, by omega, by rw [HN.out], by rw [HN.out], by go_num, (by first | exact HW.out | rw [HW.out, World.drewN_drewN])⟩
          case measure => simp [intOf]; omega
      · have hkl : k = L.length := by omega
        subst hkl
        have GE := Lib.hid (glideR_neg (A := A) (L := L) (D := D) HV.out); have GI := Lib.hid (glideR_inf (A := A) (L := L) (D := D) HV.out); have GY := Lib.hid (glideR_yes (A := A) (L := L) (D := D) HV.out)
        obtain ⟨b, m, hbm⟩ : ∃ b m, glS L D L.length = (b, m) := ⟨_, _, rfl⟩
        rw [hbm] at GE GI GY g1 g2 ⊢
        simp only at GE GI GY g1 g2 ⊢
        clear hbm
        have kr0 : wr.cell? ⟨w.heap.size, 0, none⟩ = some (.slice a1 A.length a3) := by rw [hw]; exact K1.out.cell 0
        have kr1 : wr.cell? ⟨w.heap.size, 1, none⟩ = some (.slice l1 L.length l3) := by rw [hw]; exact K1.out.cell 1
        clear hw
        have q4 : (A.length : Int) ≤ L.length := by have := H3.out; omega
        by_cases hb : b < 0
        · have HG := Lib.hid (GE.out hb); clear GE GI GY
          go_wp2
          go_ret3
          exact .mk' (by rw [HG.out]; rfl) HBr.out
        · cases hf : finb FloatKind.f32.format m
          · have HF := Lib.hid hf
            have HG := Lib.hid (GI.out hf); clear GE GI GY hf
            go_wp2_with fail
            refine (spec_l01Finite _ _).mono ?_
            rintro e w5 ⟨rfl, n5, hw5⟩
            rw [HF.out]
            have HB5 : Hid (Below w.heap.size w w5) := Lib.hid (by rw [hw5]; exact below_dn HBr.out _)
            clear hw5
            go_wp2
            go_ret3
            exact .mk' (by rw [HG.out]; rfl) HB5.out
          · have HF := Lib.hid hf
            have HG := Lib.hid (GY.out hb hf); clear GE GI GY hf
            go_wp2_with fail
            refine (spec_l01Finite _ _).mono ?_
            rintro e w5 ⟨rfl, n5, hw5⟩
            rw [HF.out]
            have HB5 : Hid (Below w.heap.size w w5) := Lib.hid (by rw [hw5]; exact below_dn HBr.out _)
            clear hw5
            go_wp2
            go_ret3
            exact .mk' (by rw [HG.out]; rfl) HB5.out

set_option maxRecDepth 8000 in
set_option maxHeartbeats 1600000 in
theorem impl_BestGlide (w : World) (v : Value) (A L D : List Nat) (h : PS w v A L D) : Calls Try.prog 40 #[v] w (RetB (glideR A L D) w) := by
  obtain ⟨a1, a2, a3, l1, l2, l3, d1, d2, d3, rfl, fa, fl, fd⟩ := h.shape
  have FA := Lib.hid fa; have FL := Lib.hid fl; have FD := Lib.hid fd; have P := Lib.hid h
  obtain ⟨rfl, ma, CA⟩ := fa.at
  obtain ⟨rfl, ml, CL⟩ := fl.at
  obtain ⟨rfl, md, CD⟩ := fd.at
  clear fa fl fd h ma ml md
  have KP := Lib.hid (Blk.new w #[Value.slice a1 A.length a3, Value.slice l1 L.length l3, Value.slice d1 D.length d3] 36)
  have HB : Hid (Below w.heap.size w (w.alloc (Obj.cells #[Value.slice a1 A.length a3, Value.slice l1 L.length l3, Value.slice d1 D.length d3] 36))) := Lib.hid ((Below.refl _ _).alloc (Nat.le_refl _) _)
  cases hv : validB A L D
  · have HV := Lib.hid hv; clear hv
    rw [glideR_no HV.out]
    go_enter Try.func40, Try.ntmps40
    go_wp2_with fail
    refine (impl_ValidProfile _ _ A L D (P.out.later HB.out)).mono ?_
    rintro e w1 ⟨rfl, hb⟩
    rw [HV.out]
    have HB1 := Lib.hid (HB.out.trans (hb.mono HB.out.size))
    have K1 := Lib.hid (KP.out.later hb)
    clear hb
    go_wp2
    go_ret3
    exact .mk' rfl HB1.out
  · have HV := Lib.hid hv
    obtain ⟨s1, s2, s3, s4⟩ := sizes_spec (valid_sizes hv)
    have H1 := Lib.hid s1; have H2 := Lib.hid s2; have H3 := Lib.hid s3; have H4 := Lib.hid s4
    clear hv s1 s2 s3 s4
    go_enter Try.func40, Try.ntmps40
    go_wp2_with fail
    refine (impl_ValidProfile _ _ A L D (P.out.later HB.out)).mono ?_
    rintro e w1 ⟨rfl, hb⟩
    rw [HV.out]
    have HB1 := Lib.hid (HB.out.trans (hb.mono HB.out.size))
    have K1 := Lib.hid (KP.out.later hb)
    clear hb
    have k1 : w1.cell? ⟨w.heap.size, 1, none⟩ = some (.slice l1 L.length l3) := K1.out.cell 1
    go_wp2_with fail
    go_loopw [5, 6, 16] (fun s m i wr => ∃ k n : Nat, k ≤ L.length ∧ s = .int .i64 (glS L D k).1 ∧ m = .float .f32 (glS L D k).2 ∧ i = .int .i64 k ∧ wr = w1.drewN n) (fun _ _ i _ => L.length - (intOf i).toNat)
    case atStart => exact ⟨0, 0, Nat.zero_le _, rfl, rfl, rfl, rfl⟩
    case round =>
      obtain ⟨k, n, hk, rfl, rfl, rfl, hw⟩ := hrel
      have HBr : Hid (Below w.heap.size w wr) := Lib.hid (by rw [hw]; exact below_dn HB1.out _)
      have HW := Lib.hid hw
      obtain ⟨g1, g2⟩ := glS_lo L D k
      have q3 : (L.length : Int) ≤ 24 := by have := H2.out; have := H3.out; omega
      by_cases hlt : k < L.length
      · have GN := Lib.hid (glS_none (L := L) (D := D) (k := k)); have GW := Lib.hid (@glS_new L D k); have GO := Lib.hid (@glS_old L D k)
        have GC : Hid (glC L D k = floatBits .quo .f32 (L.getD k 0) (D.getD k 0)) := Lib.hid rfl
        obtain ⟨b, m, hbm⟩ : ∃ b m, glS L D k = (b, m) := ⟨_, _, rfl⟩
        rw [hbm] at GN GW GO g1 g2 ⊢
        simp only at g1 g2 ⊢
        clear hbm
        obtain ⟨bl, ol, rfl, hbl, hL⟩ := CL.out k hlt
        obtain ⟨bd, od, rfl, hbd, hD⟩ := CD.out k (by have := H4.out; have := H3.out; omega)
        have kr0 : wr.cell? ⟨w.heap.size, 0, none⟩ = some (.slice a1 A.length a3) := by rw [hw]; exact K1.out.cell 0
        have kr1 : wr.cell? ⟨w.heap.size, 1, none⟩ = some (.slice (some ⟨bl, ol, none⟩) L.length l3) := by rw [hw]; exact K1.out.cell 1
        have kr2 : wr.cell? ⟨w.heap.size, 2, none⟩ = some (.slice (some ⟨bd, od, none⟩) D.length d3) := by rw [hw]; exact K1.out.cell 2
        obtain ⟨zl, el⟩ : ∃ z, L.getD k 0 = z := ⟨_, rfl⟩
        obtain ⟨zd, ed⟩ : ∃ z, D.getD k 0 = z := ⟨_, rfl⟩
        have hL' : wr.cell? ⟨bl, ol + k, none⟩ = some (.float .f32 zl) := by rw [← el]; exact (HBr.out.cell (p := ⟨bl, ol + k, none⟩) hbl).trans hL
        have hD' : wr.cell? ⟨bd, od + k, none⟩ = some (.float .f32 zd) := by rw [← ed]; exact (HBr.out.cell (p := ⟨bd, od + k, none⟩) hbd).trans hD
        rw [el, ed] at GC
        clear hL hD el ed hw
        have q0 : (k : Int) < L.length := by omega
        have q1 : (k : Int) < D.length := by have := H4.out; have := H3.out; omega
        have q2 : (k : Int) < A.length := by have := H3.out; omega
        rcases gl_cases zl zd with ⟨r, hr, kf, ke⟩ | ⟨hr, ke⟩
        · have HR : Hid (glC L D k = some r) := Lib.hid (by rw [GC.out, hr])
          clear hr
          by_cases hb : b < 0
          · have HN : Hid (glS L D (k + 1) = ((k : Int), r)) := Lib.hid (GW.out _ HR.out (by rw [decide_eq_true hb]; rfl))
            clear GN GW GO GC
            go_wp2
            go_roundw
            case rel => exact ⟨k + 1, _, by omega, by rw [HN.out], by rw [HN.out], by go_num, (by first | exact HW.out | rw [HW.out, World.drewN_drewN])⟩
            case measure => simp [intOf]; omega
          · cases hg : (FloatKind.f32.format.order r m == some .gt)
            · have HN : Hid (glS L D (k + 1) = (b, m)) := Lib.hid (GO.out _ HR.out (by rw [decide_eq_false hb]; exact hg))
              clear GN GW GO GC
              go_wp2
              go_roundw
              case rel => exact ⟨k + 1, _, by omega, by rw [HN.out], by rw [HN.out], by go_num, (by first | exact HW.out | rw [HW.out, World.drewN_drewN])⟩
              case measure => simp [intOf]; omega
            · have HN : Hid (glS L D (k + 1) = ((k : Int), r)) := Lib.hid (GW.out _ HR.out (by rw [decide_eq_false hb]; exact hg))
              clear GN GW GO GC
              go_wp2
              go_roundw
              case rel => exact ⟨k + 1, _, by omega, by rw [HN.out], by rw [HN.out], by go_num, (by first | exact HW.out | rw [HW.out, World.drewN_drewN])⟩
              case measure => simp [intOf]; omega
        · have HN : Hid (glS L D (k + 1) = (b, m)) := Lib.hid (GN.out (by rw [GC.out, hr]))
          clear GN GW GO GC hr
          go_wp2
          go_roundw
          case rel => exact ⟨k + 1, _, by omega, by rw [HN.out], by rw [HN.out], by go_num, (by first | exact HW.out | rw [HW.out, World.drewN_drewN])⟩
          case measure => simp [intOf]; omega
      · have hkl : k = L.length := by omega
        subst hkl
        have GE := Lib.hid (glideR_neg (A := A) (L := L) (D := D) HV.out); have GI := Lib.hid (glideR_inf (A := A) (L := L) (D := D) HV.out); have GY := Lib.hid (glideR_yes (A := A) (L := L) (D := D) HV.out)
        obtain ⟨b, m, hbm⟩ : ∃ b m, glS L D L.length = (b, m) := ⟨_, _, rfl⟩
        rw [hbm] at GE GI GY g1 g2 ⊢
        simp only at GE GI GY g1 g2 ⊢
        clear hbm
        have kr0 : wr.cell? ⟨w.heap.size, 0, none⟩ = some (.slice a1 A.length a3) := by rw [hw]; exact K1.out.cell 0
        have kr1 : wr.cell? ⟨w.heap.size, 1, none⟩ = some (.slice l1 L.length l3) := by rw [hw]; exact K1.out.cell 1
        clear hw
        have q4 : (A.length : Int) ≤ L.length := by have := H3.out; omega
        by_cases hb : b < 0
        · have HG := Lib.hid (GE.out hb); clear GE GI GY
          go_wp2
          go_ret3
          exact .mk' (by rw [HG.out]; rfl) HBr.out
        · cases hf : finb FloatKind.f32.format m
          · have HF := Lib.hid hf
            have HG := Lib.hid (GI.out hf); clear GE GI GY hf
            go_wp2_with fail
            refine (impl_IsFinite _ _).mono ?_
            rintro e w5 ⟨rfl, n5, hw5⟩
            rw [HF.out]
            have HB5 : Hid (Below w.heap.size w w5) := Lib.hid (by rw [hw5]; exact below_dn HBr.out _)
            clear hw5
            go_wp2
            go_ret3
            exact .mk' (by rw [HG.out]; rfl) HB5.out
          · have HF := Lib.hid hf
            have HG := Lib.hid (GY.out hb hf); clear GE GI GY hf
            go_wp2_with fail
            refine (impl_IsFinite _ _).mono ?_
            rintro e w5 ⟨rfl, n5, hw5⟩
            rw [HF.out]
            have HB5 : Hid (Below w.heap.size w w5) := Lib.hid (by rw [hw5]; exact below_dn HBr.out _)
            clear hw5
            go_wp2
            go_ret3
            exact .mk' (by rw [HG.out]; rfl) HB5.out

end Go.Proofs.Ytdkgdinbglkjcaa
