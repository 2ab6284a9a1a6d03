/- The law of CutProfile, walked. -/
import Derived.Test.YtdkgdinbglkjcaaWk25
import Derived.Test.YtdkgdinbglkjcaaWk26
namespace Go.Proofs.Ytdkgdinbglkjcaa
open Fl Go.RowKit
theorem outL_len (ok : Bool) (zs : List Nat) : (outL ok zs).length ≤ zs.length := by
  cases ok
  · exact Nat.zero_le _
  · exact Nat.le_refl _

set_option maxRecDepth 20000 in
set_option maxHeartbeats 6400000 in
theorem law_CutProfile (w : World) (v : Value) (A L D : List Nat) (x y : Nat) (h : PS w v A L D) :
    Calls Try.prog 14 #[v, .float .f32 x, .float .f32 y] w (RetB (.bool true) w) := by
  obtain ⟨a1, a2, a3, l1, l2, l3, d1, d2, d3, rfl, _⟩ := h.shape
  have P0 := Lib.hid h
  clear h
  have HSP := Lib.hid (fun (w : World) (v : Value) (h : PS w v A L D) => spec_CutProfile w v A L D x y h)
  have HIM := Lib.hid (fun (w : World) (v : Value) (h : PS w v A L D) => impl_CutProfile w v A L D x y h)
  by_cases hs0 : (A.length : Int) + L.length + D.length ≤ 1048576
  · have HA : Hid (A.length ≤ 1048576) := Lib.hid (by omega)
    have HL : Hid (L.length ≤ 1048576) := Lib.hid (by omega)
    have HD : Hid (D.length ≤ 1048576) := Lib.hid (by omega)
    have HN : Hid ((outL (validB A L D && true && validB (sel (fun k => inB (A.getD k 0) x y) A A.length) (sel (fun k => inB (A.getD k 0) x y) L A.length) (sel (fun k => inB (A.getD k 0) x y) D A.length)) (sel (fun k => inB (A.getD k 0) x y) A A.length)).length ≤ 1048576 ∧ (outL (validB A L D && true && validB (sel (fun k => inB (A.getD k 0) x y) A A.length) (sel (fun k => inB (A.getD k 0) x y) L A.length) (sel (fun k => inB (A.getD k 0) x y) D A.length)) (sel (fun k => inB (A.getD k 0) x y) L A.length)).length ≤ 1048576 ∧ (outL (validB A L D && true && validB (sel (fun k => inB (A.getD k 0) x y) A A.length) (sel (fun k => inB (A.getD k 0) x y) L A.length) (sel (fun k => inB (A.getD k 0) x y) D A.length)) (sel (fun k => inB (A.getD k 0) x y) D A.length)).length ≤ 1048576) := Lib.hid (by refine ⟨Nat.le_trans (outL_len _ _) (Nat.le_trans (sel_len _ _ _) HA.out), Nat.le_trans (outL_len _ _) (Nat.le_trans (sel_len _ _ _) HA.out), Nat.le_trans (outL_len _ _) (Nat.le_trans (sel_len _ _ _) HA.out)⟩)
    unfold SelT at HSP HIM
    obtain ⟨ok, hok⟩ : ∃ ok, (validB A L D && true && validB (sel (fun k => inB (A.getD k 0) x y) A A.length) (sel (fun k => inB (A.getD k 0) x y) L A.length) (sel (fun k => inB (A.getD k 0) x y) D A.length)) = ok := ⟨_, rfl⟩
    rw [hok] at HSP HIM HN
    clear hok
    obtain ⟨A', hA'⟩ : ∃ A', A' = outL ok (sel (fun k => inB (A.getD k 0) x y) A A.length) := ⟨_, rfl⟩
    obtain ⟨L', hL'⟩ : ∃ L', L' = outL ok (sel (fun k => inB (A.getD k 0) x y) L A.length) := ⟨_, rfl⟩
    obtain ⟨D', hD'⟩ : ∃ D', D' = outL ok (sel (fun k => inB (A.getD k 0) x y) D A.length) := ⟨_, rfl⟩
    rw [← hA', ← hL', ← hD'] at HSP HIM HN
    clear hA' hL' hD'
    have z1 : (A'.length : Int) ≤ 1048576 := by have := HN.out.1; omega
    have z2 : (L'.length : Int) ≤ 1048576 := by have := HN.out.2.1; omega
    have z3 : (D'.length : Int) ≤ 1048576 := by have := HN.out.2.2; omega
    have HS := Lib.hid hs0
    clear hs0
    go_enter Try.func14, Try.ntmps14
    go_wp2_with fail
    obtain ⟨w0, hw0⟩ : ∃ w0, w0 = (w.alloc (Obj.cells #[Value.slice a1 a2 a3, Value.slice l1 l2 l3, Value.slice d1 d2 d3] 33)) := ⟨_, rfl⟩
    have HB : Hid (Below w.heap.size w w0) := Lib.hid (by rw [hw0]; exact ((Below.refl _ _).alloc (by simp) _))
    have K1 : Hid (Blk w0 (w.heap.size) #[Value.slice a1 a2 a3, Value.slice l1 l2 l3, Value.slice d1 d2 d3] 33) := Lib.hid (by rw [hw0]; have := (Blk.new w #[Value.slice a1 a2 a3, Value.slice l1 l2 l3, Value.slice d1 d2 d3] 33); simpa using this)
    rw [← hw0]
    clear hw0
    have cK10 : w0.cell? ⟨w.heap.size, 0, none⟩ = some (Value.slice a1 a2 a3) := K1.out.cell 0
    have cK11 : w0.cell? ⟨w.heap.size, 1, none⟩ = some (Value.slice l1 l2 l3) := K1.out.cell 1
    have cK12 : w0.cell? ⟨w.heap.size, 2, none⟩ = some (Value.slice d1 d2 d3) := K1.out.cell 2
    refine (szProfile_fits _ _ A L D 1048576 (P0.out.later HB.out) (by omega) HS.out).mono ?_
    rintro e w1 ⟨rfl, hb⟩
    clear cK10 cK11 cK12
    replace HB := Lib.hid (HB.out.trans (hb.mono HB.out.size))
    replace K1 := Lib.hid (K1.out.later hb)
    have h0 : (0 : Int) ≤ 1048576 - A.length - L.length - D.length := by have := HS.out; omega
    have h0' : (A.length : Int) + L.length + D.length ≤ 1048576 := HS.out
    clear hb
    have cK10 : w1.cell? ⟨w.heap.size, 0, none⟩ = some (Value.slice a1 a2 a3) := K1.out.cell 0
    have cK11 : w1.cell? ⟨w.heap.size, 1, none⟩ = some (Value.slice l1 l2 l3) := K1.out.cell 1
    have cK12 : w1.cell? ⟨w.heap.size, 2, none⟩ = some (Value.slice d1 d2 d3) := K1.out.cell 2
    go_wp2_with fail
    refine (toProfile_any _ _ A L D (P0.out.later HB.out) HA.out HL.out HD.out).mono ?_
    rintro e w2 ⟨vS, rfl, ho, hb⟩
    clear cK10 cK11 cK12
    replace HB := Lib.hid (HB.out.trans (hb.mono HB.out.size))
    replace K1 := Lib.hid (K1.out.later hb)
    have S1 := Lib.hid (ho.PS)
    clear ho
    clear hb
    have cK10 : w2.cell? ⟨w.heap.size, 0, none⟩ = some (Value.slice a1 a2 a3) := K1.out.cell 0
    have cK11 : w2.cell? ⟨w.heap.size, 1, none⟩ = some (Value.slice l1 l2 l3) := K1.out.cell 1
    have cK12 : w2.cell? ⟨w.heap.size, 2, none⟩ = some (Value.slice d1 d2 d3) := K1.out.cell 2
    go_wp2_with fail
    have hsz := HB.out.size
    refine (HSP.out _ _ S1.out).mono ?_
    rintro e w3 ⟨vW, vWl, vWd, rfl, ho, hb⟩
    clear cK10 cK11 cK12
    replace HB := Lib.hid (HB.out.trans (hb.mono HB.out.size))
    replace K1 := Lib.hid (K1.out.later hb)
    replace S1 := Lib.hid (S1.out.later hb)
    have OW := Lib.hid (ho.base hsz)
    obtain ⟨p1, p2, p3, rfl⟩ := own_shape ho.oa; obtain ⟨p4, p5, p6, rfl⟩ := own_shape ho.ol; obtain ⟨p7, p8, p9, rfl⟩ := own_shape ho.od
    clear ho hsz
    clear hb
    have cK10 : w3.cell? ⟨w.heap.size, 0, none⟩ = some (Value.slice a1 a2 a3) := K1.out.cell 0
    have cK11 : w3.cell? ⟨w.heap.size, 1, none⟩ = some (Value.slice l1 l2 l3) := K1.out.cell 1
    have cK12 : w3.cell? ⟨w.heap.size, 2, none⟩ = some (Value.slice d1 d2 d3) := K1.out.cell 2
    clear S1
    have hb : Below w3.heap.size w3 (w3.alloc (Obj.cells #[Value.slice p1 p2 p3, Value.slice p4 p5 p6, Value.slice p7 p8 p9] 36)) := (Below.refl _ _).alloc (Nat.le_refl _) _
    clear cK10 cK11 cK12
    replace HB := Lib.hid (HB.out.trans (hb.mono HB.out.size))
    replace K1 := Lib.hid (K1.out.later hb)
    replace OW := Lib.hid (OW.out.later hb)
    have BW := Lib.hid (Blk.new w3 #[Value.slice p1 p2 p3, Value.slice p4 p5 p6, Value.slice p7 p8 p9] 36)
    clear hb
    have cK10 : (w3.alloc (Obj.cells #[Value.slice p1 p2 p3, Value.slice p4 p5 p6, Value.slice p7 p8 p9] 36)).cell? ⟨w.heap.size, 0, none⟩ = some (Value.slice a1 a2 a3) := K1.out.cell 0
    have cK11 : (w3.alloc (Obj.cells #[Value.slice p1 p2 p3, Value.slice p4 p5 p6, Value.slice p7 p8 p9] 36)).cell? ⟨w.heap.size, 1, none⟩ = some (Value.slice l1 l2 l3) := K1.out.cell 1
    have cK12 : (w3.alloc (Obj.cells #[Value.slice p1 p2 p3, Value.slice p4 p5 p6, Value.slice p7 p8 p9] 36)).cell? ⟨w.heap.size, 2, none⟩ = some (Value.slice d1 d2 d3) := K1.out.cell 2
    have cBW0 : (w3.alloc (Obj.cells #[Value.slice p1 p2 p3, Value.slice p4 p5 p6, Value.slice p7 p8 p9] 36)).cell? ⟨w3.heap.size, 0, none⟩ = some (Value.slice p1 p2 p3) := BW.out.cell 0
    have cBW1 : (w3.alloc (Obj.cells #[Value.slice p1 p2 p3, Value.slice p4 p5 p6, Value.slice p7 p8 p9] 36)).cell? ⟨w3.heap.size, 1, none⟩ = some (Value.slice p4 p5 p6) := BW.out.cell 1
    have cBW2 : (w3.alloc (Obj.cells #[Value.slice p1 p2 p3, Value.slice p4 p5 p6, Value.slice p7 p8 p9] 36)).cell? ⟨w3.heap.size, 2, none⟩ = some (Value.slice p7 p8 p9) := BW.out.cell 2
    go_wp2_with fail
    generalize (w3.alloc (Obj.cells #[Value.slice p1 p2 p3, Value.slice p4 p5 p6, Value.slice p7 p8 p9] 36)) = w4 at *
    go_wp2_with fail
    have hsz := HB.out.size
    have PW := OW
    refine (toProfile_any _ _ A L D (P0.out.later HB.out) HA.out HL.out HD.out).mono ?_
    rintro e w5 ⟨vX, rfl, hoP, hb⟩
    clear cK10 cK11 cK12 cBW0 cBW1 cBW2
    replace HB := Lib.hid (HB.out.trans (hb.mono HB.out.size))
    replace K1 := Lib.hid (K1.out.later hb)
    replace OW := Lib.hid (OW.out.later hb)
    replace BW := Lib.hid (BW.out.later hb)
    have X1 := Lib.hid (hoP.PS)
    obtain ⟨vXa, vXl, vXd, rfl, ho⟩ := hoP.own3
    obtain ⟨q1, q2, q3, rfl⟩ := own_shape ho.oa; obtain ⟨q4, q5, q6, rfl⟩ := own_shape ho.ol; obtain ⟨q7, q8, q9, rfl⟩ := own_shape ho.od
    have OX := Lib.hid (ho.base hsz)
    have AWX := Lib.hid (PW.out.apart ho (Nat.le_refl _))
    clear ho hoP hsz PW X1
    clear hb
    have cK10 : w5.cell? ⟨w.heap.size, 0, none⟩ = some (Value.slice a1 a2 a3) := K1.out.cell 0
    have cK11 : w5.cell? ⟨w.heap.size, 1, none⟩ = some (Value.slice l1 l2 l3) := K1.out.cell 1
    have cK12 : w5.cell? ⟨w.heap.size, 2, none⟩ = some (Value.slice d1 d2 d3) := K1.out.cell 2
    have cBW0 : w5.cell? ⟨w3.heap.size, 0, none⟩ = some (Value.slice p1 p2 p3) := BW.out.cell 0
    have cBW1 : w5.cell? ⟨w3.heap.size, 1, none⟩ = some (Value.slice p4 p5 p6) := BW.out.cell 1
    have cBW2 : w5.cell? ⟨w3.heap.size, 2, none⟩ = some (Value.slice p7 p8 p9) := BW.out.cell 2
    have hb : Below w5.heap.size w5 (w5.alloc (Obj.cells #[Value.slice q1 q2 q3, Value.slice q4 q5 q6, Value.slice q7 q8 q9] 36)) := (Below.refl _ _).alloc (Nat.le_refl _) _
    clear cK10 cK11 cK12 cBW0 cBW1 cBW2
    replace HB := Lib.hid (HB.out.trans (hb.mono HB.out.size))
    replace K1 := Lib.hid (K1.out.later hb)
    replace OW := Lib.hid (OW.out.later hb)
    replace BW := Lib.hid (BW.out.later hb)
    replace OX := Lib.hid (OX.out.later hb)
    have BX := Lib.hid (Blk.new w5 #[Value.slice q1 q2 q3, Value.slice q4 q5 q6, Value.slice q7 q8 q9] 36)
    clear hb
    have cK10 : (w5.alloc (Obj.cells #[Value.slice q1 q2 q3, Value.slice q4 q5 q6, Value.slice q7 q8 q9] 36)).cell? ⟨w.heap.size, 0, none⟩ = some (Value.slice a1 a2 a3) := K1.out.cell 0
    have cK11 : (w5.alloc (Obj.cells #[Value.slice q1 q2 q3, Value.slice q4 q5 q6, Value.slice q7 q8 q9] 36)).cell? ⟨w.heap.size, 1, none⟩ = some (Value.slice l1 l2 l3) := K1.out.cell 1
    have cK12 : (w5.alloc (Obj.cells #[Value.slice q1 q2 q3, Value.slice q4 q5 q6, Value.slice q7 q8 q9] 36)).cell? ⟨w.heap.size, 2, none⟩ = some (Value.slice d1 d2 d3) := K1.out.cell 2
    have cBW0 : (w5.alloc (Obj.cells #[Value.slice q1 q2 q3, Value.slice q4 q5 q6, Value.slice q7 q8 q9] 36)).cell? ⟨w3.heap.size, 0, none⟩ = some (Value.slice p1 p2 p3) := BW.out.cell 0
    have cBW1 : (w5.alloc (Obj.cells #[Value.slice q1 q2 q3, Value.slice q4 q5 q6, Value.slice q7 q8 q9] 36)).cell? ⟨w3.heap.size, 1, none⟩ = some (Value.slice p4 p5 p6) := BW.out.cell 1
    have cBW2 : (w5.alloc (Obj.cells #[Value.slice q1 q2 q3, Value.slice q4 q5 q6, Value.slice q7 q8 q9] 36)).cell? ⟨w3.heap.size, 2, none⟩ = some (Value.slice p7 p8 p9) := BW.out.cell 2
    have cBX0 : (w5.alloc (Obj.cells #[Value.slice q1 q2 q3, Value.slice q4 q5 q6, Value.slice q7 q8 q9] 36)).cell? ⟨w5.heap.size, 0, none⟩ = some (Value.slice q1 q2 q3) := BX.out.cell 0
    have cBX1 : (w5.alloc (Obj.cells #[Value.slice q1 q2 q3, Value.slice q4 q5 q6, Value.slice q7 q8 q9] 36)).cell? ⟨w5.heap.size, 1, none⟩ = some (Value.slice q4 q5 q6) := BX.out.cell 1
    have cBX2 : (w5.alloc (Obj.cells #[Value.slice q1 q2 q3, Value.slice q4 q5 q6, Value.slice q7 q8 q9] 36)).cell? ⟨w5.heap.size, 2, none⟩ = some (Value.slice q7 q8 q9) := BX.out.cell 2
    go_wp2_with fail
    generalize (w5.alloc (Obj.cells #[Value.slice q1 q2 q3, Value.slice q4 q5 q6, Value.slice q7 q8 q9] 36)) = w6 at *
    go_wp2_with fail
    have hsz := HB.out.size
    have PW := OW
    have PX := OX
    refine (HIM.out _ _ OX.out.PS).mono ?_
    rintro e w7 ⟨vG, vGl, vGd, rfl, ho, hb⟩
    clear cK10 cK11 cK12 cBW0 cBW1 cBW2 cBX0 cBX1 cBX2
    replace HB := Lib.hid (HB.out.trans (hb.mono HB.out.size))
    replace K1 := Lib.hid (K1.out.later hb)
    replace OW := Lib.hid (OW.out.later hb)
    replace BW := Lib.hid (BW.out.later hb)
    replace OX := Lib.hid (OX.out.later hb)
    replace BX := Lib.hid (BX.out.later hb)
    have OG := Lib.hid (ho.base hsz)
    obtain ⟨r1, r2, r3, rfl⟩ := own_shape ho.oa; obtain ⟨r4, r5, r6, rfl⟩ := own_shape ho.ol; obtain ⟨r7, r8, r9, rfl⟩ := own_shape ho.od
    have AWG := Lib.hid (PW.out.apart ho (Nat.le_refl _))
    have AXG := Lib.hid (PX.out.apart ho (Nat.le_refl _))
    clear ho hsz PW PX
    clear hb
    have cK10 : w7.cell? ⟨w.heap.size, 0, none⟩ = some (Value.slice a1 a2 a3) := K1.out.cell 0
    have cK11 : w7.cell? ⟨w.heap.size, 1, none⟩ = some (Value.slice l1 l2 l3) := K1.out.cell 1
    have cK12 : w7.cell? ⟨w.heap.size, 2, none⟩ = some (Value.slice d1 d2 d3) := K1.out.cell 2
    have cBW0 : w7.cell? ⟨w3.heap.size, 0, none⟩ = some (Value.slice p1 p2 p3) := BW.out.cell 0
    have cBW1 : w7.cell? ⟨w3.heap.size, 1, none⟩ = some (Value.slice p4 p5 p6) := BW.out.cell 1
    have cBW2 : w7.cell? ⟨w3.heap.size, 2, none⟩ = some (Value.slice p7 p8 p9) := BW.out.cell 2
    have cBX0 : w7.cell? ⟨w5.heap.size, 0, none⟩ = some (Value.slice q1 q2 q3) := BX.out.cell 0
    have cBX1 : w7.cell? ⟨w5.heap.size, 1, none⟩ = some (Value.slice q4 q5 q6) := BX.out.cell 1
    have cBX2 : w7.cell? ⟨w5.heap.size, 2, none⟩ = some (Value.slice q7 q8 q9) := BX.out.cell 2
    have hb : Below w7.heap.size w7 (w7.alloc (Obj.cells #[Value.slice r1 r2 r3, Value.slice r4 r5 r6, Value.slice r7 r8 r9] 36)) := (Below.refl _ _).alloc (Nat.le_refl _) _
    clear cK10 cK11 cK12 cBW0 cBW1 cBW2 cBX0 cBX1 cBX2
    replace HB := Lib.hid (HB.out.trans (hb.mono HB.out.size))
    replace K1 := Lib.hid (K1.out.later hb)
    replace OW := Lib.hid (OW.out.later hb)
    replace BW := Lib.hid (BW.out.later hb)
    replace OX := Lib.hid (OX.out.later hb)
    replace BX := Lib.hid (BX.out.later hb)
    replace OG := Lib.hid (OG.out.later hb)
    have BG := Lib.hid (Blk.new w7 #[Value.slice r1 r2 r3, Value.slice r4 r5 r6, Value.slice r7 r8 r9] 36)
    clear hb
    have cK10 : (w7.alloc (Obj.cells #[Value.slice r1 r2 r3, Value.slice r4 r5 r6, Value.slice r7 r8 r9] 36)).cell? ⟨w.heap.size, 0, none⟩ = some (Value.slice a1 a2 a3) := K1.out.cell 0
    have cK11 : (w7.alloc (Obj.cells #[Value.slice r1 r2 r3, Value.slice r4 r5 r6, Value.slice r7 r8 r9] 36)).cell? ⟨w.heap.size, 1, none⟩ = some (Value.slice l1 l2 l3) := K1.out.cell 1
    have cK12 : (w7.alloc (Obj.cells #[Value.slice r1 r2 r3, Value.slice r4 r5 r6, Value.slice r7 r8 r9] 36)).cell? ⟨w.heap.size, 2, none⟩ = some (Value.slice d1 d2 d3) := K1.out.cell 2
    have cBW0 : (w7.alloc (Obj.cells #[Value.slice r1 r2 r3, Value.slice r4 r5 r6, Value.slice r7 r8 r9] 36)).cell? ⟨w3.heap.size, 0, none⟩ = some (Value.slice p1 p2 p3) := BW.out.cell 0
    have cBW1 : (w7.alloc (Obj.cells #[Value.slice r1 r2 r3, Value.slice r4 r5 r6, Value.slice r7 r8 r9] 36)).cell? ⟨w3.heap.size, 1, none⟩ = some (Value.slice p4 p5 p6) := BW.out.cell 1
    have cBW2 : (w7.alloc (Obj.cells #[Value.slice r1 r2 r3, Value.slice r4 r5 r6, Value.slice r7 r8 r9] 36)).cell? ⟨w3.heap.size, 2, none⟩ = some (Value.slice p7 p8 p9) := BW.out.cell 2
    have cBX0 : (w7.alloc (Obj.cells #[Value.slice r1 r2 r3, Value.slice r4 r5 r6, Value.slice r7 r8 r9] 36)).cell? ⟨w5.heap.size, 0, none⟩ = some (Value.slice q1 q2 q3) := BX.out.cell 0
    have cBX1 : (w7.alloc (Obj.cells #[Value.slice r1 r2 r3, Value.slice r4 r5 r6, Value.slice r7 r8 r9] 36)).cell? ⟨w5.heap.size, 1, none⟩ = some (Value.slice q4 q5 q6) := BX.out.cell 1
    have cBX2 : (w7.alloc (Obj.cells #[Value.slice r1 r2 r3, Value.slice r4 r5 r6, Value.slice r7 r8 r9] 36)).cell? ⟨w5.heap.size, 2, none⟩ = some (Value.slice q7 q8 q9) := BX.out.cell 2
    have cBG0 : (w7.alloc (Obj.cells #[Value.slice r1 r2 r3, Value.slice r4 r5 r6, Value.slice r7 r8 r9] 36)).cell? ⟨w7.heap.size, 0, none⟩ = some (Value.slice r1 r2 r3) := BG.out.cell 0
    have cBG1 : (w7.alloc (Obj.cells #[Value.slice r1 r2 r3, Value.slice r4 r5 r6, Value.slice r7 r8 r9] 36)).cell? ⟨w7.heap.size, 1, none⟩ = some (Value.slice r4 r5 r6) := BG.out.cell 1
    have cBG2 : (w7.alloc (Obj.cells #[Value.slice r1 r2 r3, Value.slice r4 r5 r6, Value.slice r7 r8 r9] 36)).cell? ⟨w7.heap.size, 2, none⟩ = some (Value.slice r7 r8 r9) := BG.out.cell 2
    go_wp2_with fail
    generalize (w7.alloc (Obj.cells #[Value.slice r1 r2 r3, Value.slice r4 r5 r6, Value.slice r7 r8 r9] 36)) = w8 at *
    go_wp2_with fail
    refine (eqProfile_true _ _ _ A' L' D' A' L' D' OG.out.PS OW.out.PS (.refl _) (.refl _) (.refl _)).mono ?_
    rintro e w9 ⟨rfl, hb⟩
    clear cK10 cK11 cK12 cBW0 cBW1 cBW2 cBX0 cBX1 cBX2 cBG0 cBG1 cBG2
    replace HB := Lib.hid (HB.out.trans (hb.mono HB.out.size))
    replace K1 := Lib.hid (K1.out.later hb)
    replace OW := Lib.hid (OW.out.later hb)
    replace BW := Lib.hid (BW.out.later hb)
    replace OX := Lib.hid (OX.out.later hb)
    replace BX := Lib.hid (BX.out.later hb)
    replace OG := Lib.hid (OG.out.later hb)
    replace BG := Lib.hid (BG.out.later hb)
    clear hb
    have cK10 : w9.cell? ⟨w.heap.size, 0, none⟩ = some (Value.slice a1 a2 a3) := K1.out.cell 0
    have cK11 : w9.cell? ⟨w.heap.size, 1, none⟩ = some (Value.slice l1 l2 l3) := K1.out.cell 1
    have cK12 : w9.cell? ⟨w.heap.size, 2, none⟩ = some (Value.slice d1 d2 d3) := K1.out.cell 2
    have cBW0 : w9.cell? ⟨w3.heap.size, 0, none⟩ = some (Value.slice p1 p2 p3) := BW.out.cell 0
    have cBW1 : w9.cell? ⟨w3.heap.size, 1, none⟩ = some (Value.slice p4 p5 p6) := BW.out.cell 1
    have cBW2 : w9.cell? ⟨w3.heap.size, 2, none⟩ = some (Value.slice p7 p8 p9) := BW.out.cell 2
    have cBX0 : w9.cell? ⟨w5.heap.size, 0, none⟩ = some (Value.slice q1 q2 q3) := BX.out.cell 0
    have cBX1 : w9.cell? ⟨w5.heap.size, 1, none⟩ = some (Value.slice q4 q5 q6) := BX.out.cell 1
    have cBX2 : w9.cell? ⟨w5.heap.size, 2, none⟩ = some (Value.slice q7 q8 q9) := BX.out.cell 2
    have cBG0 : w9.cell? ⟨w7.heap.size, 0, none⟩ = some (Value.slice r1 r2 r3) := BG.out.cell 0
    have cBG1 : w9.cell? ⟨w7.heap.size, 1, none⟩ = some (Value.slice r4 r5 r6) := BG.out.cell 1
    have cBG2 : w9.cell? ⟨w7.heap.size, 2, none⟩ = some (Value.slice r7 r8 r9) := BG.out.cell 2
    go_wp2_with fail
    have hb : Below w9.heap.size w9 w9.drew := below_dn (Below.refl _ _) 1
    clear cK10 cK11 cK12 cBW0 cBW1 cBW2 cBX0 cBX1 cBX2 cBG0 cBG1 cBG2
    replace HB := Lib.hid (HB.out.trans (hb.mono HB.out.size))
    replace K1 := Lib.hid (K1.out.later hb)
    replace OW := Lib.hid (OW.out.later hb)
    replace BW := Lib.hid (BW.out.later hb)
    replace OX := Lib.hid (OX.out.later hb)
    replace BX := Lib.hid (BX.out.later hb)
    replace OG := Lib.hid (OG.out.later hb)
    replace BG := Lib.hid (BG.out.later hb)
    clear hb
    have cK10 : w9.drew.cell? ⟨w.heap.size, 0, none⟩ = some (Value.slice a1 a2 a3) := K1.out.cell 0
    have cK11 : w9.drew.cell? ⟨w.heap.size, 1, none⟩ = some (Value.slice l1 l2 l3) := K1.out.cell 1
    have cK12 : w9.drew.cell? ⟨w.heap.size, 2, none⟩ = some (Value.slice d1 d2 d3) := K1.out.cell 2
    have cBW0 : w9.drew.cell? ⟨w3.heap.size, 0, none⟩ = some (Value.slice p1 p2 p3) := BW.out.cell 0
    have cBW1 : w9.drew.cell? ⟨w3.heap.size, 1, none⟩ = some (Value.slice p4 p5 p6) := BW.out.cell 1
    have cBW2 : w9.drew.cell? ⟨w3.heap.size, 2, none⟩ = some (Value.slice p7 p8 p9) := BW.out.cell 2
    have cBX0 : w9.drew.cell? ⟨w5.heap.size, 0, none⟩ = some (Value.slice q1 q2 q3) := BX.out.cell 0
    have cBX1 : w9.drew.cell? ⟨w5.heap.size, 1, none⟩ = some (Value.slice q4 q5 q6) := BX.out.cell 1
    have cBX2 : w9.drew.cell? ⟨w5.heap.size, 2, none⟩ = some (Value.slice q7 q8 q9) := BX.out.cell 2
    have cBG0 : w9.drew.cell? ⟨w7.heap.size, 0, none⟩ = some (Value.slice r1 r2 r3) := BG.out.cell 0
    have cBG1 : w9.drew.cell? ⟨w7.heap.size, 1, none⟩ = some (Value.slice r4 r5 r6) := BG.out.cell 1
    have cBG2 : w9.drew.cell? ⟨w7.heap.size, 2, none⟩ = some (Value.slice r7 r8 r9) := BG.out.cell 2
    have T0 : True := trivial
    have T1 : True := trivial
    go_region_held3 (fun w' => w'.cell? ⟨w5.heap.size, 0, none⟩ = some (Value.slice q1 q2 q3) ∧ w'.cell? ⟨w5.heap.size, 1, none⟩ = some (Value.slice q4 q5 q6) ∧ w'.cell? ⟨w5.heap.size, 2, none⟩ = some (Value.slice q7 q8 q9) ∧ w'.cell? ⟨w.heap.size, 0, none⟩ = some (Value.slice a1 a2 a3) ∧ w'.cell? ⟨w.heap.size, 1, none⟩ = some (Value.slice l1 l2 l3) ∧ w'.cell? ⟨w.heap.size, 2, none⟩ = some (Value.slice d1 d2 d3)) (exact ⟨cBX0, cBX1, cBX2, cK10, cK11, cK12⟩) (first
      | (clear T0; go_at_call 26; refine (toProfile_any _ _ A L D (P0.out.later HB.out) HA.out HL.out HD.out).mono ?_; rintro e w10 ⟨vY, rfl, ho, hb⟩; clear cK10 cK11 cK12 cBW0 cBW1 cBW2 cBX0 cBX1 cBX2 cBG0 cBG1 cBG2; replace HB := Lib.hid (HB.out.trans (hb.mono HB.out.size)); replace K1 := Lib.hid (K1.out.later hb); replace OW := Lib.hid (OW.out.later hb); replace BW := Lib.hid (BW.out.later hb); replace OX := Lib.hid (OX.out.later hb); replace BX := Lib.hid (BX.out.later hb); replace OG := Lib.hid (OG.out.later hb); replace BG := Lib.hid (BG.out.later hb); have Y1 := Lib.hid (ho.PS); clear ho; clear hb; have cK10 : w10.cell? ⟨w.heap.size, 0, none⟩ = some (Value.slice a1 a2 a3) := K1.out.cell 0; have cK11 : w10.cell? ⟨w.heap.size, 1, none⟩ = some (Value.slice l1 l2 l3) := K1.out.cell 1; have cK12 : w10.cell? ⟨w.heap.size, 2, none⟩ = some (Value.slice d1 d2 d3) := K1.out.cell 2; have cBW0 : w10.cell? ⟨w3.heap.size, 0, none⟩ = some (Value.slice p1 p2 p3) := BW.out.cell 0; have cBW1 : w10.cell? ⟨w3.heap.size, 1, none⟩ = some (Value.slice p4 p5 p6) := BW.out.cell 1; have cBW2 : w10.cell? ⟨w3.heap.size, 2, none⟩ = some (Value.slice p7 p8 p9) := BW.out.cell 2; have cBX0 : w10.cell? ⟨w5.heap.size, 0, none⟩ = some (Value.slice q1 q2 q3) := BX.out.cell 0; have cBX1 : w10.cell? ⟨w5.heap.size, 1, none⟩ = some (Value.slice q4 q5 q6) := BX.out.cell 1; have cBX2 : w10.cell? ⟨w5.heap.size, 2, none⟩ = some (Value.slice q7 q8 q9) := BX.out.cell 2; have cBG0 : w10.cell? ⟨w7.heap.size, 0, none⟩ = some (Value.slice r1 r2 r3) := BG.out.cell 0; have cBG1 : w10.cell? ⟨w7.heap.size, 1, none⟩ = some (Value.slice r4 r5 r6) := BG.out.cell 1; have cBG2 : w10.cell? ⟨w7.heap.size, 2, none⟩ = some (Value.slice r7 r8 r9) := BG.out.cell 2)
      | (clear T1; go_at_call 28; refine (eqProfile_true _ _ _ A L D A L D OX.out.PS Y1.out (.refl _) (.refl _) (.refl _)).mono ?_; rintro e w11 ⟨rfl, hb⟩; clear cK10 cK11 cK12 cBW0 cBW1 cBW2 cBX0 cBX1 cBX2 cBG0 cBG1 cBG2; replace HB := Lib.hid (HB.out.trans (hb.mono HB.out.size)); replace K1 := Lib.hid (K1.out.later hb); replace OW := Lib.hid (OW.out.later hb); replace BW := Lib.hid (BW.out.later hb); replace OX := Lib.hid (OX.out.later hb); replace BX := Lib.hid (BX.out.later hb); replace OG := Lib.hid (OG.out.later hb); replace BG := Lib.hid (BG.out.later hb); replace Y1 := Lib.hid (Y1.out.later hb); clear hb; have cK10 : w11.cell? ⟨w.heap.size, 0, none⟩ = some (Value.slice a1 a2 a3) := K1.out.cell 0; have cK11 : w11.cell? ⟨w.heap.size, 1, none⟩ = some (Value.slice l1 l2 l3) := K1.out.cell 1; have cK12 : w11.cell? ⟨w.heap.size, 2, none⟩ = some (Value.slice d1 d2 d3) := K1.out.cell 2; have cBW0 : w11.cell? ⟨w3.heap.size, 0, none⟩ = some (Value.slice p1 p2 p3) := BW.out.cell 0; have cBW1 : w11.cell? ⟨w3.heap.size, 1, none⟩ = some (Value.slice p4 p5 p6) := BW.out.cell 1; have cBW2 : w11.cell? ⟨w3.heap.size, 2, none⟩ = some (Value.slice p7 p8 p9) := BW.out.cell 2; have cBX0 : w11.cell? ⟨w5.heap.size, 0, none⟩ = some (Value.slice q1 q2 q3) := BX.out.cell 0; have cBX1 : w11.cell? ⟨w5.heap.size, 1, none⟩ = some (Value.slice q4 q5 q6) := BX.out.cell 1; have cBX2 : w11.cell? ⟨w5.heap.size, 2, none⟩ = some (Value.slice q7 q8 q9) := BX.out.cell 2; have cBG0 : w11.cell? ⟨w7.heap.size, 0, none⟩ = some (Value.slice r1 r2 r3) := BG.out.cell 0; have cBG1 : w11.cell? ⟨w7.heap.size, 1, none⟩ = some (Value.slice r4 r5 r6) := BG.out.cell 1; have cBG2 : w11.cell? ⟨w7.heap.size, 2, none⟩ = some (Value.slice r7 r8 r9) := BG.out.cell 2))
    clear Y1
    go_wp2_with fail
    refine (markProfile_own _ _ _ _ _ A L D 1 OX.out HA.out HL.out HD.out (by omega) (by omega)).mono ?_
    rintro e w12 ⟨rfl, ho, hm⟩
    clear cK10 cK11 cK12 cBW0 cBW1 cBW2 cBX0 cBX1 cBX2 cBG0 cBG1 cBG2
    replace HB := Lib.hid (below_marks HB.out HB.out.size hm OX.out (Nat.le_refl _))
    replace K1 := Lib.hid (K1.out.marks (by decide) hm OX.out)
    replace BW := Lib.hid (BW.out.marks (by decide) hm OX.out)
    replace BX := Lib.hid (BX.out.marks (by decide) hm OX.out)
    replace BG := Lib.hid (BG.out.marks (by decide) hm OX.out)
    replace OW := Lib.hid (OW.out.marks hm AWX.out)
    replace OG := Lib.hid (OG.out.marks hm AXG.out.symm)
    replace OX := Lib.hid ho
    clear ho hm
    have cK10 : w12.cell? ⟨w.heap.size, 0, none⟩ = some (Value.slice a1 a2 a3) := K1.out.cell 0
    have cK11 : w12.cell? ⟨w.heap.size, 1, none⟩ = some (Value.slice l1 l2 l3) := K1.out.cell 1
    have cK12 : w12.cell? ⟨w.heap.size, 2, none⟩ = some (Value.slice d1 d2 d3) := K1.out.cell 2
    have cBW0 : w12.cell? ⟨w3.heap.size, 0, none⟩ = some (Value.slice p1 p2 p3) := BW.out.cell 0
    have cBW1 : w12.cell? ⟨w3.heap.size, 1, none⟩ = some (Value.slice p4 p5 p6) := BW.out.cell 1
    have cBW2 : w12.cell? ⟨w3.heap.size, 2, none⟩ = some (Value.slice p7 p8 p9) := BW.out.cell 2
    have cBX0 : w12.cell? ⟨w5.heap.size, 0, none⟩ = some (Value.slice q1 q2 q3) := BX.out.cell 0
    have cBX1 : w12.cell? ⟨w5.heap.size, 1, none⟩ = some (Value.slice q4 q5 q6) := BX.out.cell 1
    have cBX2 : w12.cell? ⟨w5.heap.size, 2, none⟩ = some (Value.slice q7 q8 q9) := BX.out.cell 2
    have cBG0 : w12.cell? ⟨w7.heap.size, 0, none⟩ = some (Value.slice r1 r2 r3) := BG.out.cell 0
    have cBG1 : w12.cell? ⟨w7.heap.size, 1, none⟩ = some (Value.slice r4 r5 r6) := BG.out.cell 1
    have cBG2 : w12.cell? ⟨w7.heap.size, 2, none⟩ = some (Value.slice r7 r8 r9) := BG.out.cell 2
    clear OX AWX AXG
    clear cBX0 cBX1 cBX2 BX
    go_wp2_with fail
    refine (eqProfile_true _ _ _ A' L' D' A' L' D' OG.out.PS OW.out.PS (.refl _) (.refl _) (.refl _)).mono ?_
    rintro e w13 ⟨rfl, hb⟩
    clear cK10 cK11 cK12 cBW0 cBW1 cBW2 cBG0 cBG1 cBG2
    replace HB := Lib.hid (HB.out.trans (hb.mono HB.out.size))
    replace K1 := Lib.hid (K1.out.later hb)
    replace OW := Lib.hid (OW.out.later hb)
    replace BW := Lib.hid (BW.out.later hb)
    replace OG := Lib.hid (OG.out.later hb)
    replace BG := Lib.hid (BG.out.later hb)
    clear hb
    have cK10 : w13.cell? ⟨w.heap.size, 0, none⟩ = some (Value.slice a1 a2 a3) := K1.out.cell 0
    have cK11 : w13.cell? ⟨w.heap.size, 1, none⟩ = some (Value.slice l1 l2 l3) := K1.out.cell 1
    have cK12 : w13.cell? ⟨w.heap.size, 2, none⟩ = some (Value.slice d1 d2 d3) := K1.out.cell 2
    have cBW0 : w13.cell? ⟨w3.heap.size, 0, none⟩ = some (Value.slice p1 p2 p3) := BW.out.cell 0
    have cBW1 : w13.cell? ⟨w3.heap.size, 1, none⟩ = some (Value.slice p4 p5 p6) := BW.out.cell 1
    have cBW2 : w13.cell? ⟨w3.heap.size, 2, none⟩ = some (Value.slice p7 p8 p9) := BW.out.cell 2
    have cBG0 : w13.cell? ⟨w7.heap.size, 0, none⟩ = some (Value.slice r1 r2 r3) := BG.out.cell 0
    have cBG1 : w13.cell? ⟨w7.heap.size, 1, none⟩ = some (Value.slice r4 r5 r6) := BG.out.cell 1
    have cBG2 : w13.cell? ⟨w7.heap.size, 2, none⟩ = some (Value.slice r7 r8 r9) := BG.out.cell 2
    go_wp2_with fail
    refine (markProfile_own _ _ _ _ _ A' L' D' 1 OG.out HN.out.1 HN.out.2.1 HN.out.2.2 (by omega) (by omega)).mono ?_
    rintro e w14 ⟨rfl, ho, hm⟩
    clear cK10 cK11 cK12 cBW0 cBW1 cBW2 cBG0 cBG1 cBG2
    replace HB := Lib.hid (below_marks HB.out HB.out.size hm OG.out (Nat.le_refl _))
    replace K1 := Lib.hid (K1.out.marks (by decide) hm OG.out)
    replace BW := Lib.hid (BW.out.marks (by decide) hm OG.out)
    replace BG := Lib.hid (BG.out.marks (by decide) hm OG.out)
    replace OW := Lib.hid (OW.out.marks hm AWG.out)
    replace OG := Lib.hid ho
    clear ho hm
    have cK10 : w14.cell? ⟨w.heap.size, 0, none⟩ = some (Value.slice a1 a2 a3) := K1.out.cell 0
    have cK11 : w14.cell? ⟨w.heap.size, 1, none⟩ = some (Value.slice l1 l2 l3) := K1.out.cell 1
    have cK12 : w14.cell? ⟨w.heap.size, 2, none⟩ = some (Value.slice d1 d2 d3) := K1.out.cell 2
    have cBW0 : w14.cell? ⟨w3.heap.size, 0, none⟩ = some (Value.slice p1 p2 p3) := BW.out.cell 0
    have cBW1 : w14.cell? ⟨w3.heap.size, 1, none⟩ = some (Value.slice p4 p5 p6) := BW.out.cell 1
    have cBW2 : w14.cell? ⟨w3.heap.size, 2, none⟩ = some (Value.slice p7 p8 p9) := BW.out.cell 2
    have cBG0 : w14.cell? ⟨w7.heap.size, 0, none⟩ = some (Value.slice r1 r2 r3) := BG.out.cell 0
    have cBG1 : w14.cell? ⟨w7.heap.size, 1, none⟩ = some (Value.slice r4 r5 r6) := BG.out.cell 1
    have cBG2 : w14.cell? ⟨w7.heap.size, 2, none⟩ = some (Value.slice r7 r8 r9) := BG.out.cell 2
    clear AWG
    go_wp2_with fail
    refine (heldProfile_own _ _ _ _ _ A'.length L'.length D'.length 1 OG.out HN.out.1 HN.out.2.1 HN.out.2.2 (by omega) (by omega)).mono ?_
    rintro e w15 ⟨rfl, hb⟩
    clear cK10 cK11 cK12 cBW0 cBW1 cBW2 cBG0 cBG1 cBG2
    replace HB := Lib.hid (HB.out.trans (hb.mono HB.out.size))
    replace K1 := Lib.hid (K1.out.later hb)
    replace OW := Lib.hid (OW.out.later hb)
    replace BW := Lib.hid (BW.out.later hb)
    replace OG := Lib.hid (OG.out.later hb)
    replace BG := Lib.hid (BG.out.later hb)
    clear hb
    have cK10 : w15.cell? ⟨w.heap.size, 0, none⟩ = some (Value.slice a1 a2 a3) := K1.out.cell 0
    have cK11 : w15.cell? ⟨w.heap.size, 1, none⟩ = some (Value.slice l1 l2 l3) := K1.out.cell 1
    have cK12 : w15.cell? ⟨w.heap.size, 2, none⟩ = some (Value.slice d1 d2 d3) := K1.out.cell 2
    have cBW0 : w15.cell? ⟨w3.heap.size, 0, none⟩ = some (Value.slice p1 p2 p3) := BW.out.cell 0
    have cBW1 : w15.cell? ⟨w3.heap.size, 1, none⟩ = some (Value.slice p4 p5 p6) := BW.out.cell 1
    have cBW2 : w15.cell? ⟨w3.heap.size, 2, none⟩ = some (Value.slice p7 p8 p9) := BW.out.cell 2
    have cBG0 : w15.cell? ⟨w7.heap.size, 0, none⟩ = some (Value.slice r1 r2 r3) := BG.out.cell 0
    have cBG1 : w15.cell? ⟨w7.heap.size, 1, none⟩ = some (Value.slice r4 r5 r6) := BG.out.cell 1
    have cBG2 : w15.cell? ⟨w7.heap.size, 2, none⟩ = some (Value.slice r7 r8 r9) := BG.out.cell 2
    go_wp2_with fail
    refine (toProfile_any _ _ A L D (P0.out.later HB.out) HA.out HL.out HD.out).mono ?_
    rintro e w16 ⟨vZ, rfl, ho, hb⟩
    clear cK10 cK11 cK12 cBW0 cBW1 cBW2 cBG0 cBG1 cBG2
    replace HB := Lib.hid (HB.out.trans (hb.mono HB.out.size))
    replace K1 := Lib.hid (K1.out.later hb)
    replace OW := Lib.hid (OW.out.later hb)
    replace BW := Lib.hid (BW.out.later hb)
    replace OG := Lib.hid (OG.out.later hb)
    replace BG := Lib.hid (BG.out.later hb)
    have Z1 := Lib.hid (ho.PS)
    clear ho
    clear hb
    have cK10 : w16.cell? ⟨w.heap.size, 0, none⟩ = some (Value.slice a1 a2 a3) := K1.out.cell 0
    have cK11 : w16.cell? ⟨w.heap.size, 1, none⟩ = some (Value.slice l1 l2 l3) := K1.out.cell 1
    have cK12 : w16.cell? ⟨w.heap.size, 2, none⟩ = some (Value.slice d1 d2 d3) := K1.out.cell 2
    have cBW0 : w16.cell? ⟨w3.heap.size, 0, none⟩ = some (Value.slice p1 p2 p3) := BW.out.cell 0
    have cBW1 : w16.cell? ⟨w3.heap.size, 1, none⟩ = some (Value.slice p4 p5 p6) := BW.out.cell 1
    have cBW2 : w16.cell? ⟨w3.heap.size, 2, none⟩ = some (Value.slice p7 p8 p9) := BW.out.cell 2
    have cBG0 : w16.cell? ⟨w7.heap.size, 0, none⟩ = some (Value.slice r1 r2 r3) := BG.out.cell 0
    have cBG1 : w16.cell? ⟨w7.heap.size, 1, none⟩ = some (Value.slice r4 r5 r6) := BG.out.cell 1
    have cBG2 : w16.cell? ⟨w7.heap.size, 2, none⟩ = some (Value.slice r7 r8 r9) := BG.out.cell 2
    go_wp2_with fail
    have hsz := HB.out.size
    refine (HIM.out _ _ Z1.out).mono ?_
    rintro e w17 ⟨vH, vHl, vHd, rfl, ho, hb⟩
    clear cK10 cK11 cK12 cBW0 cBW1 cBW2 cBG0 cBG1 cBG2
    replace HB := Lib.hid (HB.out.trans (hb.mono HB.out.size))
    replace K1 := Lib.hid (K1.out.later hb)
    replace OW := Lib.hid (OW.out.later hb)
    replace BW := Lib.hid (BW.out.later hb)
    replace OG := Lib.hid (OG.out.later hb)
    replace BG := Lib.hid (BG.out.later hb)
    replace Z1 := Lib.hid (Z1.out.later hb)
    have OH := Lib.hid (ho.base hsz)
    obtain ⟨s1, s2, s3, rfl⟩ := own_shape ho.oa; obtain ⟨s4, s5, s6, rfl⟩ := own_shape ho.ol; obtain ⟨s7, s8, s9, rfl⟩ := own_shape ho.od
    clear ho hsz
    clear hb
    have cK10 : w17.cell? ⟨w.heap.size, 0, none⟩ = some (Value.slice a1 a2 a3) := K1.out.cell 0
    have cK11 : w17.cell? ⟨w.heap.size, 1, none⟩ = some (Value.slice l1 l2 l3) := K1.out.cell 1
    have cK12 : w17.cell? ⟨w.heap.size, 2, none⟩ = some (Value.slice d1 d2 d3) := K1.out.cell 2
    have cBW0 : w17.cell? ⟨w3.heap.size, 0, none⟩ = some (Value.slice p1 p2 p3) := BW.out.cell 0
    have cBW1 : w17.cell? ⟨w3.heap.size, 1, none⟩ = some (Value.slice p4 p5 p6) := BW.out.cell 1
    have cBW2 : w17.cell? ⟨w3.heap.size, 2, none⟩ = some (Value.slice p7 p8 p9) := BW.out.cell 2
    have cBG0 : w17.cell? ⟨w7.heap.size, 0, none⟩ = some (Value.slice r1 r2 r3) := BG.out.cell 0
    have cBG1 : w17.cell? ⟨w7.heap.size, 1, none⟩ = some (Value.slice r4 r5 r6) := BG.out.cell 1
    have cBG2 : w17.cell? ⟨w7.heap.size, 2, none⟩ = some (Value.slice r7 r8 r9) := BG.out.cell 2
    clear Z1
    have hb : Below w17.heap.size w17 (w17.alloc (Obj.cells #[Value.slice s1 s2 s3, Value.slice s4 s5 s6, Value.slice s7 s8 s9] 36)) := (Below.refl _ _).alloc (Nat.le_refl _) _
    clear cK10 cK11 cK12 cBW0 cBW1 cBW2 cBG0 cBG1 cBG2
    replace HB := Lib.hid (HB.out.trans (hb.mono HB.out.size))
    replace K1 := Lib.hid (K1.out.later hb)
    replace OW := Lib.hid (OW.out.later hb)
    replace BW := Lib.hid (BW.out.later hb)
    replace OG := Lib.hid (OG.out.later hb)
    replace BG := Lib.hid (BG.out.later hb)
    replace OH := Lib.hid (OH.out.later hb)
    have BH := Lib.hid (Blk.new w17 #[Value.slice s1 s2 s3, Value.slice s4 s5 s6, Value.slice s7 s8 s9] 36)
    clear hb
    have cK10 : (w17.alloc (Obj.cells #[Value.slice s1 s2 s3, Value.slice s4 s5 s6, Value.slice s7 s8 s9] 36)).cell? ⟨w.heap.size, 0, none⟩ = some (Value.slice a1 a2 a3) := K1.out.cell 0
    have cK11 : (w17.alloc (Obj.cells #[Value.slice s1 s2 s3, Value.slice s4 s5 s6, Value.slice s7 s8 s9] 36)).cell? ⟨w.heap.size, 1, none⟩ = some (Value.slice l1 l2 l3) := K1.out.cell 1
    have cK12 : (w17.alloc (Obj.cells #[Value.slice s1 s2 s3, Value.slice s4 s5 s6, Value.slice s7 s8 s9] 36)).cell? ⟨w.heap.size, 2, none⟩ = some (Value.slice d1 d2 d3) := K1.out.cell 2
    have cBW0 : (w17.alloc (Obj.cells #[Value.slice s1 s2 s3, Value.slice s4 s5 s6, Value.slice s7 s8 s9] 36)).cell? ⟨w3.heap.size, 0, none⟩ = some (Value.slice p1 p2 p3) := BW.out.cell 0
    have cBW1 : (w17.alloc (Obj.cells #[Value.slice s1 s2 s3, Value.slice s4 s5 s6, Value.slice s7 s8 s9] 36)).cell? ⟨w3.heap.size, 1, none⟩ = some (Value.slice p4 p5 p6) := BW.out.cell 1
    have cBW2 : (w17.alloc (Obj.cells #[Value.slice s1 s2 s3, Value.slice s4 s5 s6, Value.slice s7 s8 s9] 36)).cell? ⟨w3.heap.size, 2, none⟩ = some (Value.slice p7 p8 p9) := BW.out.cell 2
    have cBG0 : (w17.alloc (Obj.cells #[Value.slice s1 s2 s3, Value.slice s4 s5 s6, Value.slice s7 s8 s9] 36)).cell? ⟨w7.heap.size, 0, none⟩ = some (Value.slice r1 r2 r3) := BG.out.cell 0
    have cBG1 : (w17.alloc (Obj.cells #[Value.slice s1 s2 s3, Value.slice s4 s5 s6, Value.slice s7 s8 s9] 36)).cell? ⟨w7.heap.size, 1, none⟩ = some (Value.slice r4 r5 r6) := BG.out.cell 1
    have cBG2 : (w17.alloc (Obj.cells #[Value.slice s1 s2 s3, Value.slice s4 s5 s6, Value.slice s7 s8 s9] 36)).cell? ⟨w7.heap.size, 2, none⟩ = some (Value.slice r7 r8 r9) := BG.out.cell 2
    have cBH0 : (w17.alloc (Obj.cells #[Value.slice s1 s2 s3, Value.slice s4 s5 s6, Value.slice s7 s8 s9] 36)).cell? ⟨w17.heap.size, 0, none⟩ = some (Value.slice s1 s2 s3) := BH.out.cell 0
    have cBH1 : (w17.alloc (Obj.cells #[Value.slice s1 s2 s3, Value.slice s4 s5 s6, Value.slice s7 s8 s9] 36)).cell? ⟨w17.heap.size, 1, none⟩ = some (Value.slice s4 s5 s6) := BH.out.cell 1
    have cBH2 : (w17.alloc (Obj.cells #[Value.slice s1 s2 s3, Value.slice s4 s5 s6, Value.slice s7 s8 s9] 36)).cell? ⟨w17.heap.size, 2, none⟩ = some (Value.slice s7 s8 s9) := BH.out.cell 2
    go_wp2_with fail
    generalize (w17.alloc (Obj.cells #[Value.slice s1 s2 s3, Value.slice s4 s5 s6, Value.slice s7 s8 s9] 36)) = w18 at *
    go_wp2_with fail
    refine (eqProfile_true _ _ _ A' L' D' A' L' D' OH.out.PS OW.out.PS (.refl _) (.refl _) (.refl _)).mono ?_
    rintro e w19 ⟨rfl, hb⟩
    clear cK10 cK11 cK12 cBW0 cBW1 cBW2 cBG0 cBG1 cBG2 cBH0 cBH1 cBH2
    replace HB := Lib.hid (HB.out.trans (hb.mono HB.out.size))
    replace K1 := Lib.hid (K1.out.later hb)
    replace OW := Lib.hid (OW.out.later hb)
    replace BW := Lib.hid (BW.out.later hb)
    replace OG := Lib.hid (OG.out.later hb)
    replace BG := Lib.hid (BG.out.later hb)
    replace OH := Lib.hid (OH.out.later hb)
    replace BH := Lib.hid (BH.out.later hb)
    clear hb
    have cK10 : w19.cell? ⟨w.heap.size, 0, none⟩ = some (Value.slice a1 a2 a3) := K1.out.cell 0
    have cK11 : w19.cell? ⟨w.heap.size, 1, none⟩ = some (Value.slice l1 l2 l3) := K1.out.cell 1
    have cK12 : w19.cell? ⟨w.heap.size, 2, none⟩ = some (Value.slice d1 d2 d3) := K1.out.cell 2
    have cBW0 : w19.cell? ⟨w3.heap.size, 0, none⟩ = some (Value.slice p1 p2 p3) := BW.out.cell 0
    have cBW1 : w19.cell? ⟨w3.heap.size, 1, none⟩ = some (Value.slice p4 p5 p6) := BW.out.cell 1
    have cBW2 : w19.cell? ⟨w3.heap.size, 2, none⟩ = some (Value.slice p7 p8 p9) := BW.out.cell 2
    have cBG0 : w19.cell? ⟨w7.heap.size, 0, none⟩ = some (Value.slice r1 r2 r3) := BG.out.cell 0
    have cBG1 : w19.cell? ⟨w7.heap.size, 1, none⟩ = some (Value.slice r4 r5 r6) := BG.out.cell 1
    have cBG2 : w19.cell? ⟨w7.heap.size, 2, none⟩ = some (Value.slice r7 r8 r9) := BG.out.cell 2
    have cBH0 : w19.cell? ⟨w17.heap.size, 0, none⟩ = some (Value.slice s1 s2 s3) := BH.out.cell 0
    have cBH1 : w19.cell? ⟨w17.heap.size, 1, none⟩ = some (Value.slice s4 s5 s6) := BH.out.cell 1
    have cBH2 : w19.cell? ⟨w17.heap.size, 2, none⟩ = some (Value.slice s7 s8 s9) := BH.out.cell 2
    go_wp2_with fail
    refine (heldProfile_own _ _ _ _ _ A'.length L'.length D'.length 1 OG.out HN.out.1 HN.out.2.1 HN.out.2.2 (by omega) (by omega)).mono ?_
    rintro e w20 ⟨rfl, hb⟩
    clear cK10 cK11 cK12 cBW0 cBW1 cBW2 cBG0 cBG1 cBG2 cBH0 cBH1 cBH2
    replace HB := Lib.hid (HB.out.trans (hb.mono HB.out.size))
    replace K1 := Lib.hid (K1.out.later hb)
    replace OW := Lib.hid (OW.out.later hb)
    replace BW := Lib.hid (BW.out.later hb)
    replace OG := Lib.hid (OG.out.later hb)
    replace BG := Lib.hid (BG.out.later hb)
    replace OH := Lib.hid (OH.out.later hb)
    replace BH := Lib.hid (BH.out.later hb)
    clear hb
    have cK10 : w20.cell? ⟨w.heap.size, 0, none⟩ = some (Value.slice a1 a2 a3) := K1.out.cell 0
    have cK11 : w20.cell? ⟨w.heap.size, 1, none⟩ = some (Value.slice l1 l2 l3) := K1.out.cell 1
    have cK12 : w20.cell? ⟨w.heap.size, 2, none⟩ = some (Value.slice d1 d2 d3) := K1.out.cell 2
    have cBW0 : w20.cell? ⟨w3.heap.size, 0, none⟩ = some (Value.slice p1 p2 p3) := BW.out.cell 0
    have cBW1 : w20.cell? ⟨w3.heap.size, 1, none⟩ = some (Value.slice p4 p5 p6) := BW.out.cell 1
    have cBW2 : w20.cell? ⟨w3.heap.size, 2, none⟩ = some (Value.slice p7 p8 p9) := BW.out.cell 2
    have cBG0 : w20.cell? ⟨w7.heap.size, 0, none⟩ = some (Value.slice r1 r2 r3) := BG.out.cell 0
    have cBG1 : w20.cell? ⟨w7.heap.size, 1, none⟩ = some (Value.slice r4 r5 r6) := BG.out.cell 1
    have cBG2 : w20.cell? ⟨w7.heap.size, 2, none⟩ = some (Value.slice r7 r8 r9) := BG.out.cell 2
    have cBH0 : w20.cell? ⟨w17.heap.size, 0, none⟩ = some (Value.slice s1 s2 s3) := BH.out.cell 0
    have cBH1 : w20.cell? ⟨w17.heap.size, 1, none⟩ = some (Value.slice s4 s5 s6) := BH.out.cell 1
    have cBH2 : w20.cell? ⟨w17.heap.size, 2, none⟩ = some (Value.slice s7 s8 s9) := BH.out.cell 2
    go_wp2
    go_ret
    exact .mk' rfl HB.out
  · have HS := Lib.hid hs0; clear hs0
    go_enter Try.func14, Try.ntmps14
    go_wp2_with fail
    obtain ⟨w0, hw0⟩ : ∃ w0, w0 = (w.alloc (Obj.cells #[Value.slice a1 a2 a3, Value.slice l1 l2 l3, Value.slice d1 d2 d3] 33)) := ⟨_, rfl⟩
    have HB : Hid (Below w.heap.size w w0) := Lib.hid (by rw [hw0]; exact ((Below.refl _ _).alloc (by simp) _))
    have K1 : Hid (Blk w0 (w.heap.size) #[Value.slice a1 a2 a3, Value.slice l1 l2 l3, Value.slice d1 d2 d3] 33) := Lib.hid (by rw [hw0]; have := (Blk.new w #[Value.slice a1 a2 a3, Value.slice l1 l2 l3, Value.slice d1 d2 d3] 33); simpa using this)
    rw [← hw0]
    clear hw0
    have cK10 : w0.cell? ⟨w.heap.size, 0, none⟩ = some (Value.slice a1 a2 a3) := K1.out.cell 0
    have cK11 : w0.cell? ⟨w.heap.size, 1, none⟩ = some (Value.slice l1 l2 l3) := K1.out.cell 1
    have cK12 : w0.cell? ⟨w.heap.size, 2, none⟩ = some (Value.slice d1 d2 d3) := K1.out.cell 2
    refine (szProfile_over _ _ A L D 1048576 (P0.out.later HB.out) (by omega) (by omega) (by have := HS.out; omega)).mono ?_
    rintro e w1 ⟨rfl, hb⟩
    clear cK10 cK11 cK12
    replace HB := Lib.hid (HB.out.trans (hb.mono HB.out.size))
    replace K1 := Lib.hid (K1.out.later hb)
    clear hb
    have cK10 : w1.cell? ⟨w.heap.size, 0, none⟩ = some (Value.slice a1 a2 a3) := K1.out.cell 0
    have cK11 : w1.cell? ⟨w.heap.size, 1, none⟩ = some (Value.slice l1 l2 l3) := K1.out.cell 1
    have cK12 : w1.cell? ⟨w.heap.size, 2, none⟩ = some (Value.slice d1 d2 d3) := K1.out.cell 2
    go_wp2
    go_ret
    exact .mk' rfl HB.out

end Go.Proofs.Ytdkgdinbglkjcaa
