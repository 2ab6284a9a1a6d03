/- MirrorProfile: the reference (printed by gmir.py; the region's walk by the kit's regions.py). -/
import Derived.Test.YtdkgdinbglkjcaaWk22
import Derived.Test.YtdkgdinbglkjcaaWLast
import Derived.Test.YtdkgdinbglkjcaaMr2
namespace Go.Proofs.Ytdkgdinbglkjcaa
open Fl Go.RowKit YtdkgdinbglkjcaaW.PrintLast

@[go_sem] theorem unary_neg_float (k : FloatKind) (b : Nat) : Go.Op.unary .neg (.float k b) = pure (.float k (Go.Op.negFloat k b)) := rfl

/-- The numbers from the last to the first, negated or as they are. -/
def ngAt (X : List Nat) (n i : Nat) : Nat := Go.Op.negFloat .f32 (X.getD (n - 1 - i) 0)
def psAt (X : List Nat) (n i : Nat) : Nat := X.getD (n - 1 - i) 0
theorem ng_step {X : List Nat} {q k n : Nat} (h : q + 1 + k = n) : upto (ngAt X n) (k + 1) = upto (ngAt X n) k ++ [Go.Op.negFloat .f32 (X.getD q 0)] := by
  rw [upto_succ, ngAt, show n - 1 - k = q by omega]
theorem ps_step {X : List Nat} {q k n : Nat} (h : q + 1 + k = n) : upto (psAt X n) (k + 1) = upto (psAt X n) k ++ [X.getD q 0] := by
  rw [upto_succ, psAt, show n - 1 - k = q by omega]
def MirT (A L D : List Nat) : World → Ending → World → Prop := RetT (outL (validB A L D) (upto (ngAt A A.length) A.length)) (outL (validB A L D) (upto (ngAt L A.length) A.length)) (outL (validB A L D) (upto (psAt D A.length) A.length)) (validB A L D)

set_option maxRecDepth 8000 in
set_option maxHeartbeats 1600000 in
theorem spec_MirrorProfile (w : World) (v : Value) (A L D : List Nat) (h : PS w v A L D) : Calls Try.prog 47 #[v] w (MirT A L D w) := by
  obtain ⟨a1, a2, a3, l1, l2, l3, d1, d2, d3, rfl, fa, fl, fd⟩ := h.shape
  obtain ⟨rfl, ma, CA⟩ := fa.at
  obtain ⟨rfl, ml, CL⟩ := fl.at
  obtain ⟨rfl, md, CD⟩ := fd.at
  obtain ⟨k1, k2, hb, hz⟩ := box2 w #[Value.slice a1 A.length a3, Value.slice l1 L.length l3, Value.slice d1 D.length d3] #[Value.slice none 0 0, Value.slice none 0 0, Value.slice none 0 0] 36 36
  obtain ⟨wb, hwb⟩ : ∃ wb, wb = ((w.alloc (Obj.cells #[Value.slice a1 A.length a3, Value.slice l1 L.length l3, Value.slice d1 D.length d3] 36)).alloc (Obj.cells #[Value.slice none 0 0, Value.slice none 0 0, Value.slice none 0 0] 36)) := ⟨_, rfl⟩
  rw [← hwb] at k1 k2 hb hz
  have FA := Lib.hid (fa.later hb); have FL := Lib.hid (fl.later hb); have FD := Lib.hid (fd.later hb); have K1 := Lib.hid k1; have K2 := Lib.hid k2; have HB := Lib.hid hb; have HZ := Lib.hid hz
  clear fa fl fd h k1 k2 hb hz ma ml md
  cases hv : validB A L D
  · have HV := Lib.hid hv
    have HR : Hid (∀ w', Below w.heap.size w w' → MirT A L D w (.returned (.tuple #[.agg #[.slice none 0 0, .slice none 0 0, .slice none 0 0], .bool false])) w') := Lib.hid fun w' hb => by
      unfold MirT
      rw [hv]
      exact retT_no rfl hb
    clear hv CA CL CD
    go_enter Try.func47, Try.ntmps47
    go_wp2_with fail
    rw [← hwb]
    clear hwb
    refine (spec_l02Is _ _ _ _ _ A L D K1.out FA.out FL.out FD.out).mono ?_
    rintro e w1 ⟨rfl, n1, hw1⟩
    rw [HV.out]
    replace K1 : Hid (Blk w1 _ _ _) := Lib.hid (by rw [hw1]; exact K1.out)
    replace K2 : Hid (Blk w1 _ _ _) := Lib.hid (by rw [hw1]; exact K2.out)
    replace HB : Hid (Below w.heap.size w w1) := Lib.hid (by rw [hw1]; exact below_dn HB.out _)
    clear hw1 FA FL FD K1
    obtain ⟨⟨r0, r1, r2⟩, f0, f1, f2⟩ := cells3 K2.out
    go_wp2
    have KF := Lib.hid (set3_blk K2.out (Value.slice none 0 0) (Value.slice none 0 0) (Value.slice none 0 0))
    obtain ⟨⟨q0, q1, q2⟩, _⟩ := cells3 KF.out
    unfold set3 at q0 q1 q2
    refine bodyPost_ret (v := .tuple #[.agg #[Value.slice none 0 0, Value.slice none 0 0, Value.slice none 0 0], .bool false]) (by simp [results, Try.results47, go_sem, q0, q1, q2]) rfl ?_
    exact HR.out _ (set3_below HB.out (by omega) _ _ _)
  · have HV := Lib.hid hv
    obtain ⟨s1, s2, s3, s4⟩ := sizes_spec (valid_sizes hv)
    have HE : Hid (∀ e w', RetT (outL true (upto (ngAt A A.length) A.length)) (outL true (upto (ngAt L A.length) A.length)) (outL true (upto (psAt D A.length) A.length)) true w e w' → MirT A L D w e w') := Lib.hid fun e w' hr => by
      unfold MirT
      rw [hv]
      exact hr
    have H1 := Lib.hid s1; have H2 := Lib.hid s2; have H3 := Lib.hid s3; have H4 := Lib.hid s4
    clear hv s1 s2 s3 s4
    go_enter Try.func47, Try.ntmps47
    go_wp2_with fail
    rw [← hwb]
    clear hwb
    refine (spec_l02Is _ _ _ _ _ A L D K1.out FA.out FL.out FD.out).mono ?_
    rintro e w1 ⟨rfl, n1, hw1⟩
    rw [HV.out]
    replace K1 : Hid (Blk w1 _ _ _) := Lib.hid (by rw [hw1]; exact K1.out)
    replace K2 : Hid (Blk w1 _ _ _) := Lib.hid (by rw [hw1]; exact K2.out)
    replace HB : Hid (Below w.heap.size w w1) := Lib.hid (by rw [hw1]; exact below_dn HB.out _)
    have HS1 : Hid (w.heap.size + 2 ≤ w1.heap.size) := Lib.hid (by rw [hw1]; have := HZ.out; simp; omega)
    clear hw1 FA FL FD HZ
    go_wp2_with fail
    refine (spec_l02New _).mono ?_
    rintro e w2 ⟨va, vl, vd, rfl, ho, hb⟩
    obtain ⟨x1, y1, z1, rfl⟩ := own_shape ho.oa
    obtain ⟨x2, y2, z2, rfl⟩ := own_shape ho.ol
    obtain ⟨x3, y3, z3, rfl⟩ := own_shape ho.od
    have hs := hb.size
    have B2 := Lib.hid hb
    have O2 := Lib.hid ho
    clear ho hb
    obtain ⟨⟨k0, k1, k2⟩, _⟩ := cells3 ((K1.out.keep B2.out (by have := HS1.out; omega)).alloc (Obj.cells #[Value.slice x1 y1 z1, Value.slice x2 y2 z2, Value.slice x3 y3 z3] 36))
    have q4 : (A.length : Int) ≤ 24 := by have := H2.out; omega
    go_wp2_with fail
    clear k0 k1 k2
    obtain ⟨w3, hw3⟩ : ∃ w3, w3 = w2.alloc (Obj.cells #[Value.slice x1 y1 z1, Value.slice x2 y2 z2, Value.slice x3 y3 z3] 36) := ⟨_, rfl⟩
    rw [← hw3]
    have S0 : Hid (St w3 w2.heap.size w1.heap.size (Value.slice x1 y1 z1) (Value.slice x2 y2 z2) (Value.slice x3 y3 z3) (upto (ngAt A A.length) 0) (upto (ngAt L A.length) 0) (upto (psAt D A.length) 0)) := Lib.hid (by rw [hw3]; exact (O2.out.later ((Below.refl _ _).alloc (Nat.le_refl _) _)).St hs (Blk.new _ _ _))
    have B3 : Hid (Below w1.heap.size w1 w3 ∧ w1.heap.size ≤ w3.heap.size) := Lib.hid (by rw [hw3]; exact ⟨B2.out.alloc hs _, by simp; omega⟩)
    have HS2 := Lib.hid hs
    clear hw3 O2 B2 hs
    generalize w2.heap.size = ob at *
    go_loopw [5] (fun i wr => ∃ (k p : Nat) (a l d : Value), p + k = A.length ∧ i = .int .i64 ((p : Int) - 1) ∧ St wr ob w1.heap.size a l d (upto (ngAt A A.length) k) (upto (ngAt L A.length) k) (upto (psAt D A.length) k) ∧ Below w1.heap.size w1 wr ∧ w1.heap.size ≤ wr.heap.size) (fun i _ => (intOf i + 1).toNat)
    case atStart => exact ⟨0, A.length, _, _, _, by omega, rfl, S0.out, B3.out.1, B3.out.2⟩
    case round =>
      obtain ⟨k, p, va, vl, vd, hp, rfl, hst, hbr, hsz⟩ := hrel
      have HST := Lib.hid hst; have HBR := Lib.hid hbr; have HSZ := Lib.hid hsz
      have HBT : Hid (Below w.heap.size w wr) := Lib.hid (HB.out.trans (hbr.mono (by have := HS1.out; omega)))
      have KP : Hid (Blk wr w.heap.size #[Value.slice a1 A.length a3, Value.slice l1 L.length l3, Value.slice d1 D.length d3] 36) := Lib.hid (K1.out.keep hbr (by have := HS1.out; omega))
      have KR : Hid (Blk wr (w.heap.size + 1) #[Value.slice none 0 0, Value.slice none 0 0, Value.slice none 0 0] 36) := Lib.hid (K2.out.keep hbr (by have := HS1.out; omega))
      clear hst hbr hsz S0 B3
      rcases p with _ | q
      · obtain rfl : k = A.length := by omega
        obtain ⟨⟨r0, r1, r2⟩, f0, f1, f2⟩ := cells3 KR.out
        obtain ⟨x4, y4, z4, rfl⟩ := own_shape HST.out.oa
        obtain ⟨x5, y5, z5, rfl⟩ := own_shape HST.out.ol
        obtain ⟨x6, y6, z6, rfl⟩ := own_shape HST.out.od
        obtain ⟨⟨o0, o1, o2⟩, _⟩ := cells3 HST.out.blk
        have HO : Hid (Own3 wr w.heap.size (Value.slice x4 y4 z4) (Value.slice x5 y5 z5) (Value.slice x6 y6 z6) _ _ _) := Lib.hid (HST.out.own3.base (by have := HS1.out; omega))
        have KW := Lib.hid (set3_blk KR.out (Value.slice x4 y4 z4) (Value.slice x5 y5 z5) (Value.slice x6 y6 z6))
        have HBW := Lib.hid (set3_below (b := w.heap.size + 1) HBT.out (by omega) (Value.slice x4 y4 z4) (Value.slice x5 y5 z5) (Value.slice x6 y6 z6))
        have HOW := Lib.hid (set3_own HO.out KR.out (Value.slice x4 y4 z4) (Value.slice x5 y5 z5) (Value.slice x6 y6 z6))
        clear hp HST KR KP HBT HBR HSZ HO
        go_wp2
        obtain ⟨⟨q0, q1, q2⟩, _⟩ := cells3 KW.out
        unfold set3 at q0 q1 q2
        refine bodyPost_ret (v := .tuple #[.agg #[Value.slice x4 y4 z4, Value.slice x5 y5 z5, Value.slice x6 y6 z6], .bool true]) (by simp [results, Try.results47, go_sem, q0, q1, q2]) rfl (HE.out _ _ (retT_yes rfl HOW.out HBW.out))
      · have hlt : q < A.length := by omega
        obtain ⟨ba, oa, rfl, hba, hA⟩ := CA.out q hlt
        obtain ⟨bl, ol, rfl, hbl, hL⟩ := CL.out q (by have := H3.out; omega)
        obtain ⟨bd, od, rfl, hbd, hD⟩ := CD.out q (by have := H4.out; omega)
        have eq1 : (((q + 1 : Nat) : Int) - 1) = (q : Int) := by omega
        rw [eq1]
        clear eq1
        obtain ⟨⟨k0, k1, k2⟩, _⟩ := cells3 KP.out
        have hA' : wr.cell? ⟨ba, oa + q, none⟩ = some (.float .f32 (A.getD q 0)) := (HBT.out.cell (p := ⟨ba, oa + q, none⟩) hba).trans hA
        have hL' : wr.cell? ⟨bl, ol + q, none⟩ = some (.float .f32 (L.getD q 0)) := (HBT.out.cell (p := ⟨bl, ol + q, none⟩) hbl).trans hL
        have hD' : wr.cell? ⟨bd, od + q, none⟩ = some (.float .f32 (D.getD q 0)) := (HBT.out.cell (p := ⟨bd, od + q, none⟩) hbd).trans hD
        have GA := Lib.hid (And.intro hba hA); have GL := Lib.hid (And.intro hbl hL); have GD := Lib.hid (And.intro hbd hD)
        clear hA hL hD hba hbl hbd
        have q0 : (q : Int) < A.length := by omega
        have q1 : (q : Int) < L.length := by have := H3.out; omega
        have q2 : (q : Int) < D.length := by have := H4.out; omega
        have q3 : (0 : Int) ≤ (q : Int) := by omega
        have TA := Lib.hid (ng_step (X := A) hp); have TL := Lib.hid (ng_step (X := L) hp); have TD := Lib.hid (ps_step (X := D) hp)
        have HP := Lib.hid hp
        have NL : Hid ((upto (ngAt A A.length) k).length ≤ 1000 ∧ (upto (ngAt L A.length) k).length ≤ 1000 ∧ (upto (psAt D A.length) k).length ≤ 1000) := Lib.hid (by have := H2.out; simp only [upto_length]; omega)
        clear hp
        generalize A.getD q 0 = za at *
        generalize L.getD q 0 = zl at *
        generalize D.getD q 0 = zd at *
        go_wp2_with fail
        have hS0 : wr.drew.cell? ⟨w.heap.size, 0, none⟩ = some (Value.slice (some ⟨ba, oa, none⟩) A.length a3) ∧ wr.drew.cell? ⟨w.heap.size, 1, none⟩ = some (Value.slice (some ⟨bl, ol, none⟩) L.length l3) ∧ wr.drew.cell? ⟨w.heap.size, 2, none⟩ = some (Value.slice (some ⟨bd, od, none⟩) D.length d3) ∧ wr.drew.cell? ⟨ba, oa + q, none⟩ = some (Value.float FloatKind.f32 za) ∧ wr.drew.cell? ⟨bl, ol + q, none⟩ = some (Value.float FloatKind.f32 zl) ∧ wr.drew.cell? ⟨bd, od + q, none⟩ = some (Value.float FloatKind.f32 zd) := ⟨k0, k1, k2, hA', hL', hD'⟩
        clear k0 k1 k2 hA' hL' hD'
        have HS0 := HST; have HB0 := HBR; have HZ0 := HSZ
        clear HST HBR HSZ
        have hdr : Below wr.heap.size wr wr.drew := below_dn (Below.refl _ _) 1
        have HST := Lib.hid (HS0.out.later hdr)
        have HBR := Lib.hid (HB0.out.trans (hdr.mono HZ0.out))
        clear hdr
        have HSZ : Hid (w1.heap.size ≤ wr.drew.heap.size) := HZ0
        clear HS0 HB0 HZ0
        refine start_ (n := 18) (S := fun w' => w'.cell? ⟨w.heap.size, 0, none⟩ = some (Value.slice (some ⟨ba, oa, none⟩) A.length a3) ∧ w'.cell? ⟨w.heap.size, 1, none⟩ = some (Value.slice (some ⟨bl, ol, none⟩) L.length l3) ∧ w'.cell? ⟨w.heap.size, 2, none⟩ = some (Value.slice (some ⟨bd, od, none⟩) D.length d3) ∧ w'.cell? ⟨ba, oa + q, none⟩ = some (Value.float FloatKind.f32 za) ∧ w'.cell? ⟨bl, ol + q, none⟩ = some (Value.float FloatKind.f32 zl) ∧ w'.cell? ⟨bd, od + q, none⟩ = some (Value.float FloatKind.f32 zd)) (ds := [17]) #[false, false, false, false, false, false, false, false, false, false, false, false, false, false, false, false, false, false] (by kernel_rfl) rfl rfl ⟨hS0.1, hS0.2.1, hS0.2.2.1, hS0.2.2.2.1, hS0.2.2.2.2.1, hS0.2.2.2.2.2⟩ (fun hHeld => ?_)
        refine pure_ (i := 0) (N := some 18) (v := ?_) (a' := ?_) #[true, false, false, false, false, false, false, false, false, false, false, false, false, false, false, false, false, false] rfl rfl (by kernel_rfl) (fun _ _ _ h => h) (Or.inl ⟨by rfl, ?_⟩) ?_ ?_
        rotate_left
        · intro w'
          go_simp
          with_reducible rfl
        rotate_left
        · simp only [Act.put, List.setIfInBounds_toArray, List.set_cons_zero, List.set_cons_succ]
          rfl
        refine pure_ (i := 2) (N := some 20) (v := ?_) (a' := ?_) #[true, false, true, false, false, false, false, false, false, false, false, false, false, false, false, false, false, false] rfl rfl (by kernel_rfl) (fun _ _ _ h => h) (Or.inl ⟨by rfl, ?_⟩) ?_ ?_
        rotate_left
        · intro w'
          go_simp
          with_reducible rfl
        rotate_left
        · simp only [Act.put, List.setIfInBounds_toArray, List.set_cons_zero, List.set_cons_succ]
          rfl
        refine pure_ (i := 6) (N := some 24) (v := ?_) (a' := ?_) #[true, false, true, false, false, false, true, false, false, false, false, false, false, false, false, false, false, false] rfl rfl (by kernel_rfl) (fun _ _ _ h => h) (Or.inl ⟨by rfl, ?_⟩) ?_ ?_
        rotate_left
        · intro w'
          go_simp
          with_reducible rfl
        rotate_left
        · simp only [Act.put, List.setIfInBounds_toArray, List.set_cons_zero, List.set_cons_succ]
          rfl
        refine pure_ (i := 8) (N := some 26) (v := ?_) (a' := ?_) #[true, false, true, false, false, false, true, false, true, false, false, false, false, false, false, false, false, false] rfl rfl (by kernel_rfl) (fun _ _ _ h => h) (Or.inl ⟨by rfl, ?_⟩) ?_ ?_
        rotate_left
        · intro w'
          go_simp
          with_reducible rfl
        rotate_left
        · simp only [Act.put, List.setIfInBounds_toArray, List.set_cons_zero, List.set_cons_succ]
          rfl
        refine pure_ (i := 12) (N := some 30) (v := ?_) (a' := ?_) #[true, false, true, false, false, false, true, false, true, false, false, false, true, false, false, false, false, false] rfl rfl (by kernel_rfl) (fun _ _ _ h => h) (Or.inl ⟨by rfl, ?_⟩) ?_ ?_
        rotate_left
        · intro w'
          go_simp
          with_reducible rfl
        rotate_left
        · simp only [Act.put, List.setIfInBounds_toArray, List.set_cons_zero, List.set_cons_succ]
          rfl
        refine pure_ (i := 14) (N := some 32) (v := ?_) (a' := ?_) #[true, false, true, false, false, false, true, false, true, false, false, false, true, false, true, false, false, false] rfl rfl (by kernel_rfl) (fun _ _ _ h => h) (Or.inl ⟨by rfl, ?_⟩) ?_ ?_
        rotate_left
        · intro w'
          go_simp
          with_reducible rfl
        rotate_left
        · simp only [Act.put, List.setIfInBounds_toArray, List.set_cons_zero, List.set_cons_succ]
          rfl
        refine take_ (i := 1) (N := some 19) (v := ?_) (a' := ?_) #[true, true, true, false, false, false, true, false, true, false, false, false, true, false, true, false, false, false] rfl rfl (by kernel_rfl) (fun _ _ _ h => h) (Or.inl ⟨by rfl, ?_⟩) hHeld ?_ ?_
        rotate_left
        · rintro w' ⟨s0, s1, s2, s3, s4, s5⟩
          go_simp
          with_reducible rfl
        rotate_left
        · simp only [Act.put, List.setIfInBounds_toArray, List.set_cons_zero, List.set_cons_succ]
          rfl
        refine pure_ (i := 3) (N := some 21) (v := ?_) (a' := ?_) #[true, true, true, true, false, false, true, false, true, false, false, false, true, false, true, false, false, false] rfl rfl (by kernel_rfl) (fun _ _ _ h => h) (Or.inl ⟨by rfl, ?_⟩) ?_ ?_
        rotate_left
        · intro w'
          go_simp
          with_reducible rfl
        rotate_left
        · simp only [Act.put, List.setIfInBounds_toArray, List.set_cons_zero, List.set_cons_succ]
          rfl
        refine take_ (i := 4) (N := some 22) (v := ?_) (a' := ?_) #[true, true, true, true, true, false, true, false, true, false, false, false, true, false, true, false, false, false] rfl rfl (by kernel_rfl) (fun _ _ _ h => h) (Or.inl ⟨by rfl, ?_⟩) hHeld ?_ ?_
        rotate_left
        · rintro w' ⟨s0, s1, s2, s3, s4, s5⟩
          go_simp
          with_reducible rfl
        rotate_left
        · simp only [Act.put, List.setIfInBounds_toArray, List.set_cons_zero, List.set_cons_succ]
          rfl
        refine pure_ (i := 5) (N := some 23) (v := ?_) (a' := ?_) #[true, true, true, true, true, true, true, false, true, false, false, false, true, false, true, false, false, false] rfl rfl (by kernel_rfl) (fun _ _ _ h => h) (Or.inl ⟨by rfl, ?_⟩) ?_ ?_
        rotate_left
        · intro w'
          go_simp
          with_reducible rfl
        rotate_left
        · simp only [Act.put, List.setIfInBounds_toArray, List.set_cons_zero, List.set_cons_succ]
          rfl
        refine take_ (i := 7) (N := some 25) (v := ?_) (a' := ?_) #[true, true, true, true, true, true, true, true, true, false, false, false, true, false, true, false, false, false] rfl rfl (by kernel_rfl) (fun _ _ _ h => h) (Or.inl ⟨by rfl, ?_⟩) hHeld ?_ ?_
        rotate_left
        · rintro w' ⟨s0, s1, s2, s3, s4, s5⟩
          go_simp
          with_reducible rfl
        rotate_left
        · simp only [Act.put, List.setIfInBounds_toArray, List.set_cons_zero, List.set_cons_succ]
          rfl
        refine pure_ (i := 9) (N := some 27) (v := ?_) (a' := ?_) #[true, true, true, true, true, true, true, true, true, true, false, false, true, false, true, false, false, false] rfl rfl (by kernel_rfl) (fun _ _ _ h => h) (Or.inl ⟨by rfl, ?_⟩) ?_ ?_
        rotate_left
        · intro w'
          go_simp
          with_reducible rfl
        rotate_left
        · simp only [Act.put, List.setIfInBounds_toArray, List.set_cons_zero, List.set_cons_succ]
          rfl
        refine take_ (i := 10) (N := some 28) (v := ?_) (a' := ?_) #[true, true, true, true, true, true, true, true, true, true, true, false, true, false, true, false, false, false] rfl rfl (by kernel_rfl) (fun _ _ _ h => h) (Or.inl ⟨by rfl, ?_⟩) hHeld ?_ ?_
        rotate_left
        · rintro w' ⟨s0, s1, s2, s3, s4, s5⟩
          go_simp
          with_reducible rfl
        rotate_left
        · simp only [Act.put, List.setIfInBounds_toArray, List.set_cons_zero, List.set_cons_succ]
          rfl
        refine pure_ (i := 11) (N := some 29) (v := ?_) (a' := ?_) #[true, true, true, true, true, true, true, true, true, true, true, true, true, false, true, false, false, false] rfl rfl (by kernel_rfl) (fun _ _ _ h => h) (Or.inl ⟨by rfl, ?_⟩) ?_ ?_
        rotate_left
        · intro w'
          go_simp
          with_reducible rfl
        rotate_left
        · simp only [Act.put, List.setIfInBounds_toArray, List.set_cons_zero, List.set_cons_succ]
          rfl
        refine take_ (i := 13) (N := some 31) (v := ?_) (a' := ?_) #[true, true, true, true, true, true, true, true, true, true, true, true, true, true, true, false, false, false] rfl rfl (by kernel_rfl) (fun _ _ _ h => h) (Or.inl ⟨by rfl, ?_⟩) hHeld ?_ ?_
        rotate_left
        · rintro w' ⟨s0, s1, s2, s3, s4, s5⟩
          go_simp
          with_reducible rfl
        rotate_left
        · simp only [Act.put, List.setIfInBounds_toArray, List.set_cons_zero, List.set_cons_succ]
          rfl
        refine pure_ (i := 15) (N := some 33) (v := ?_) (a' := ?_) #[true, true, true, true, true, true, true, true, true, true, true, true, true, true, true, true, false, false] rfl rfl (by kernel_rfl) (fun _ _ _ h => h) (Or.inl ⟨by rfl, ?_⟩) ?_ ?_
        rotate_left
        · intro w'
          go_simp
          with_reducible rfl
        rotate_left
        · simp only [Act.put, List.setIfInBounds_toArray, List.set_cons_zero, List.set_cons_succ]
          rfl
        refine take_ (i := 16) (N := some 34) (v := ?_) (a' := ?_) #[true, true, true, true, true, true, true, true, true, true, true, true, true, true, true, true, true, false] rfl rfl (by kernel_rfl) (fun _ _ _ h => h) (Or.inl ⟨by rfl, ?_⟩) hHeld ?_ ?_
        rotate_left
        · rintro w' ⟨s0, s1, s2, s3, s4, s5⟩
          go_simp
          with_reducible rfl
        rotate_left
        · simp only [Act.put, List.setIfInBounds_toArray, List.set_cons_zero, List.set_cons_succ]
          rfl
        refine last_ (i := 17) (N := some 35) #[true, true, true, true, true, true, true, true, true, true, true, true, true, true, true, true, true, true] rfl rfl (by kernel_rfl) (by decide) (fun K hK => ?_)
        refine goes_ Try.func79 (by kernel_rfl) rfl #[.pointer (some ⟨ob, 0, none⟩), .float .f32 (Go.Op.negFloat .f32 za), .float .f32 (Go.Op.negFloat .f32 zl), .float .f32 zd] (by rfl) rfl rfl (by simp only [List.map_toArray, List.map_cons, List.map_nil]; rfl) ?_
        with_reducible refine ((spec_l02Put _ _ _ _ _ _ _ _ _ _ _ _ _ HST.out HBR.out HSZ.out NL.out.1 NL.out.2.1 NL.out.2.2)).mono ?_
        rintro e w4 ⟨rfl, va', vl', vd', hst, hbr, hsz⟩
        clear HST HBR HSZ
        have HST := Lib.hid hst; have HBR := Lib.hid hbr; have HSZ := Lib.hid hsz
        clear hst hbr hsz
        refine ⟨_, rfl, ?_⟩
        refine hK.out _ _ ?_
        clear hK K
        refine norm_ (a' := ?_) ?_ ?_
        rotate_left
        · show Act.put _ (some 35) _ = _
          simp only [Act.put, List.setIfInBounds_toArray, List.set_cons_zero, List.set_cons_succ]
          rfl
        refine done_ (by kernel_rfl) ?_
        go_wp2
        go_roundw
        case rel => exact ⟨k + 1, q, _, _, _, by have := HP.out; omega, by first | rfl | (congr 1; omega), by rw [TA.out, TL.out, TD.out]; exact HST.out, HBR.out, HSZ.out⟩
        case measure => simp [intOf]

end Go.Proofs.Ytdkgdinbglkjcaa
