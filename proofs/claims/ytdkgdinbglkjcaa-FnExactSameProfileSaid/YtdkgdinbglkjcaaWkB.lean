/- The law of SameProfile, walked. -/
import Derived.Test.YtdkgdinbglkjcaaWk9
import Derived.Deep.RegionHeld3
namespace Go.Proofs.Ytdkgdinbglkjcaa
open Fl Go.RowKit

set_option maxRecDepth 4000 in
set_option maxHeartbeats 1600000 in
theorem law_SameProfile (w : World) (v v' : Value) (A L D A' L' D' : List Nat) (h : PS w v A L D) (h' : PS w v' A' L' D') (hw : WsP A L D) (hw' : WsP A' L' D') :
    Calls Try.prog 5 #[v, v'] w (RetB (.bool true) w) := by
  obtain ⟨a1, a2, a3, l1, l2, l3, d1, d2, d3, rfl, _⟩ := h.shape
  obtain ⟨a1', a2', a3', l1', l2', l3', d1', d2', d3', rfl, _⟩ := h'.shape
  have P1 := Lib.hid h; have P2 := Lib.hid h'; have W1 := Lib.hid hw; have W2 := Lib.hid hw'
  clear h h' hw hw'
  by_cases hs0 : (A.length : Int) + L.length + D.length ≤ 1048576
  · by_cases hs1 : (A'.length : Int) + L'.length + D'.length ≤ 1048576 - A.length - L.length - D.length
    · have HA : Hid (A.length ≤ 1048576) := Lib.hid (by omega)
      have HL : Hid (L.length ≤ 1048576) := Lib.hid (by omega)
      have HD : Hid (D.length ≤ 1048576) := Lib.hid (by omega)
      have HA' : Hid (A'.length ≤ 1048576) := Lib.hid (by omega)
      have HL' : Hid (L'.length ≤ 1048576) := Lib.hid (by omega)
      have HD' : Hid (D'.length ≤ 1048576) := Lib.hid (by omega)
      have HS := Lib.hid hs0; have HS' := Lib.hid hs1
      clear hs0 hs1
      go_enter Try.func5, Try.ntmps5
      go_wp2_with fail
      obtain ⟨w0, hw0⟩ : ∃ w0, w0 = ((w.alloc (Obj.cells #[Value.slice a1 a2 a3, Value.slice l1 l2 l3, Value.slice d1 d2 d3] 33)).alloc (Obj.cells #[Value.slice a1' a2' a3', Value.slice l1' l2' l3', Value.slice d1' d2' d3'] 33)) := ⟨_, rfl⟩
      have HB : Hid (Below w.heap.size w w0) := Lib.hid (by rw [hw0]; exact (((Below.refl _ _).alloc (by simp) _).alloc (by simp) _))
      have K1 : Hid (Blk w0 (w.heap.size) #[Value.slice a1 a2 a3, Value.slice l1 l2 l3, Value.slice d1 d2 d3] 33) := Lib.hid (by rw [hw0]; have := ((Blk.new w #[Value.slice a1 a2 a3, Value.slice l1 l2 l3, Value.slice d1 d2 d3] 33).alloc (Obj.cells #[Value.slice a1' a2' a3', Value.slice l1' l2' l3', Value.slice d1' d2' d3'] 33)); simpa using this)
      have K2 : Hid (Blk w0 (w.heap.size + 1) #[Value.slice a1' a2' a3', Value.slice l1' l2' l3', Value.slice d1' d2' d3'] 33) := Lib.hid (by rw [hw0]; have := (Blk.new (w.alloc (Obj.cells #[Value.slice a1 a2 a3, Value.slice l1 l2 l3, Value.slice d1 d2 d3] 33)) #[Value.slice a1' a2' a3', Value.slice l1' l2' l3', Value.slice d1' d2' d3'] 33); simpa using this)
      replace P1 := Lib.hid (P1.out.later HB.out)
      replace P2 := Lib.hid (P2.out.later HB.out)
      rw [← hw0]
      clear hw0
      have cK10 : w0.cell? ⟨w.heap.size, 0, none⟩ = some (Value.slice a1 a2 a3) := K1.out.cell 0
      have cK11 : w0.cell? ⟨w.heap.size, 1, none⟩ = some (Value.slice l1 l2 l3) := K1.out.cell 1
      have cK12 : w0.cell? ⟨w.heap.size, 2, none⟩ = some (Value.slice d1 d2 d3) := K1.out.cell 2
      have cK20 : w0.cell? ⟨w.heap.size + 1, 0, none⟩ = some (Value.slice a1' a2' a3') := K2.out.cell 0
      have cK21 : w0.cell? ⟨w.heap.size + 1, 1, none⟩ = some (Value.slice l1' l2' l3') := K2.out.cell 1
      have cK22 : w0.cell? ⟨w.heap.size + 1, 2, none⟩ = some (Value.slice d1' d2' d3') := K2.out.cell 2
      refine (szProfile_fits _ _ A L D 1048576 P1.out (by omega) HS.out).mono ?_
      rintro e w1 ⟨rfl, hb⟩
      clear cK10 cK11 cK12 cK20 cK21 cK22
      replace HB := Lib.hid (HB.out.trans (hb.mono HB.out.size))
      replace K1 := Lib.hid (K1.out.later hb)
      replace K2 := Lib.hid (K2.out.later hb)
      replace P1 := Lib.hid (P1.out.later hb)
      replace P2 := Lib.hid (P2.out.later hb)
      have h0 : (0 : Int) ≤ 1048576 - A.length - L.length - D.length := by have := HS.out; omega
      clear hb
      have cK10 : w1.cell? ⟨w.heap.size, 0, none⟩ = some (Value.slice a1 a2 a3) := K1.out.cell 0
      have cK11 : w1.cell? ⟨w.heap.size, 1, none⟩ = some (Value.slice l1 l2 l3) := K1.out.cell 1
      have cK12 : w1.cell? ⟨w.heap.size, 2, none⟩ = some (Value.slice d1 d2 d3) := K1.out.cell 2
      have cK20 : w1.cell? ⟨w.heap.size + 1, 0, none⟩ = some (Value.slice a1' a2' a3') := K2.out.cell 0
      have cK21 : w1.cell? ⟨w.heap.size + 1, 1, none⟩ = some (Value.slice l1' l2' l3') := K2.out.cell 1
      have cK22 : w1.cell? ⟨w.heap.size + 1, 2, none⟩ = some (Value.slice d1' d2' d3') := K2.out.cell 2
      go_wp2_with fail
      refine (szProfile_fits _ _ A' L' D' _ P2.out (by omega) HS'.out).mono ?_
      rintro e w2 ⟨rfl, hb⟩
      clear cK10 cK11 cK12 cK20 cK21 cK22
      replace HB := Lib.hid (HB.out.trans (hb.mono HB.out.size))
      replace K1 := Lib.hid (K1.out.later hb)
      replace K2 := Lib.hid (K2.out.later hb)
      replace P1 := Lib.hid (P1.out.later hb)
      replace P2 := Lib.hid (P2.out.later hb)
      have h00 : (0 : Int) ≤ 1048576 - A.length - L.length - D.length - A'.length - L'.length - D'.length := by have := HS.out; have := HS'.out; omega
      clear hb
      have cK10 : w2.cell? ⟨w.heap.size, 0, none⟩ = some (Value.slice a1 a2 a3) := K1.out.cell 0
      have cK11 : w2.cell? ⟨w.heap.size, 1, none⟩ = some (Value.slice l1 l2 l3) := K1.out.cell 1
      have cK12 : w2.cell? ⟨w.heap.size, 2, none⟩ = some (Value.slice d1 d2 d3) := K1.out.cell 2
      have cK20 : w2.cell? ⟨w.heap.size + 1, 0, none⟩ = some (Value.slice a1' a2' a3') := K2.out.cell 0
      have cK21 : w2.cell? ⟨w.heap.size + 1, 1, none⟩ = some (Value.slice l1' l2' l3') := K2.out.cell 1
      have cK22 : w2.cell? ⟨w.heap.size + 1, 2, none⟩ = some (Value.slice d1' d2' d3') := K2.out.cell 2
      go_wp2_with fail
      have hb : Below w2.heap.size w2 w2.drew := below_dn (Below.refl _ _) 1
      clear cK10 cK11 cK12 cK20 cK21 cK22
      replace HB := Lib.hid (HB.out.trans (hb.mono HB.out.size))
      replace K1 := Lib.hid (K1.out.later hb)
      replace K2 := Lib.hid (K2.out.later hb)
      replace P1 := Lib.hid (P1.out.later hb)
      replace P2 := Lib.hid (P2.out.later hb)
      clear hb
      have cK10 : w2.drew.cell? ⟨w.heap.size, 0, none⟩ = some (Value.slice a1 a2 a3) := K1.out.cell 0
      have cK11 : w2.drew.cell? ⟨w.heap.size, 1, none⟩ = some (Value.slice l1 l2 l3) := K1.out.cell 1
      have cK12 : w2.drew.cell? ⟨w.heap.size, 2, none⟩ = some (Value.slice d1 d2 d3) := K1.out.cell 2
      have cK20 : w2.drew.cell? ⟨w.heap.size + 1, 0, none⟩ = some (Value.slice a1' a2' a3') := K2.out.cell 0
      have cK21 : w2.drew.cell? ⟨w.heap.size + 1, 1, none⟩ = some (Value.slice l1' l2' l3') := K2.out.cell 1
      have cK22 : w2.drew.cell? ⟨w.heap.size + 1, 2, none⟩ = some (Value.slice d1' d2' d3') := K2.out.cell 2
      have T0 : True := trivial
      have T1 : True := trivial
      have T2 : True := trivial
      go_region_held3 (fun w' => w'.cell? ⟨w.heap.size, 0, none⟩ = some (Value.slice a1 a2 a3) ∧ w'.cell? ⟨w.heap.size, 1, none⟩ = some (Value.slice l1 l2 l3) ∧ w'.cell? ⟨w.heap.size, 2, none⟩ = some (Value.slice d1 d2 d3) ∧ w'.cell? ⟨w.heap.size + 1, 0, none⟩ = some (Value.slice a1' a2' a3') ∧ w'.cell? ⟨w.heap.size + 1, 1, none⟩ = some (Value.slice l1' l2' l3') ∧ w'.cell? ⟨w.heap.size + 1, 2, none⟩ = some (Value.slice d1' d2' d3')) (exact ⟨cK10, cK11, cK12, cK20, cK21, cK22⟩) (first
        | (clear T0; go_at_call 26; refine (toProfile_any _ _ A L D P1.out HA.out HL.out HD.out).mono ?_; rintro e w3 ⟨vS1, rfl, ho, hb⟩; clear cK10 cK11 cK12 cK20 cK21 cK22; replace HB := Lib.hid (HB.out.trans (hb.mono HB.out.size)); replace K1 := Lib.hid (K1.out.later hb); replace K2 := Lib.hid (K2.out.later hb); replace P1 := Lib.hid (P1.out.later hb); replace P2 := Lib.hid (P2.out.later hb); have S1 := Lib.hid (ho.PS); clear ho; clear hb; have cK10 : w3.cell? ⟨w.heap.size, 0, none⟩ = some (Value.slice a1 a2 a3) := K1.out.cell 0; have cK11 : w3.cell? ⟨w.heap.size, 1, none⟩ = some (Value.slice l1 l2 l3) := K1.out.cell 1; have cK12 : w3.cell? ⟨w.heap.size, 2, none⟩ = some (Value.slice d1 d2 d3) := K1.out.cell 2; have cK20 : w3.cell? ⟨w.heap.size + 1, 0, none⟩ = some (Value.slice a1' a2' a3') := K2.out.cell 0; have cK21 : w3.cell? ⟨w.heap.size + 1, 1, none⟩ = some (Value.slice l1' l2' l3') := K2.out.cell 1; have cK22 : w3.cell? ⟨w.heap.size + 1, 2, none⟩ = some (Value.slice d1' d2' d3') := K2.out.cell 2)
        | (clear T1; go_at_call 26; refine (toProfile_any _ _ A' L' D' P2.out HA'.out HL'.out HD'.out).mono ?_; rintro e w4 ⟨vS2, rfl, ho, hb⟩; clear cK10 cK11 cK12 cK20 cK21 cK22; replace HB := Lib.hid (HB.out.trans (hb.mono HB.out.size)); replace K1 := Lib.hid (K1.out.later hb); replace K2 := Lib.hid (K2.out.later hb); replace P1 := Lib.hid (P1.out.later hb); replace P2 := Lib.hid (P2.out.later hb); replace S1 := Lib.hid (S1.out.later hb); have S2 := Lib.hid (ho.PS); clear ho; clear hb; have cK10 : w4.cell? ⟨w.heap.size, 0, none⟩ = some (Value.slice a1 a2 a3) := K1.out.cell 0; have cK11 : w4.cell? ⟨w.heap.size, 1, none⟩ = some (Value.slice l1 l2 l3) := K1.out.cell 1; have cK12 : w4.cell? ⟨w.heap.size, 2, none⟩ = some (Value.slice d1 d2 d3) := K1.out.cell 2; have cK20 : w4.cell? ⟨w.heap.size + 1, 0, none⟩ = some (Value.slice a1' a2' a3') := K2.out.cell 0; have cK21 : w4.cell? ⟨w.heap.size + 1, 1, none⟩ = some (Value.slice l1' l2' l3') := K2.out.cell 1; have cK22 : w4.cell? ⟨w.heap.size + 1, 2, none⟩ = some (Value.slice d1' d2' d3') := K2.out.cell 2)
        | (clear T2; go_at_call 25; refine (spec_SameProfile _ _ _ A L D A' L' D' S1.out S2.out W1.out W2.out).mono ?_; rintro e w5 ⟨rfl, hb⟩; clear cK10 cK11 cK12 cK20 cK21 cK22; replace HB := Lib.hid (HB.out.trans (hb.mono HB.out.size)); replace K1 := Lib.hid (K1.out.later hb); replace K2 := Lib.hid (K2.out.later hb); replace P1 := Lib.hid (P1.out.later hb); replace P2 := Lib.hid (P2.out.later hb); replace S1 := Lib.hid (S1.out.later hb); replace S2 := Lib.hid (S2.out.later hb); clear hb; have cK10 : w5.cell? ⟨w.heap.size, 0, none⟩ = some (Value.slice a1 a2 a3) := K1.out.cell 0; have cK11 : w5.cell? ⟨w.heap.size, 1, none⟩ = some (Value.slice l1 l2 l3) := K1.out.cell 1; have cK12 : w5.cell? ⟨w.heap.size, 2, none⟩ = some (Value.slice d1 d2 d3) := K1.out.cell 2; have cK20 : w5.cell? ⟨w.heap.size + 1, 0, none⟩ = some (Value.slice a1' a2' a3') := K2.out.cell 0; have cK21 : w5.cell? ⟨w.heap.size + 1, 1, none⟩ = some (Value.slice l1' l2' l3') := K2.out.cell 1; have cK22 : w5.cell? ⟨w.heap.size + 1, 2, none⟩ = some (Value.slice d1' d2' d3') := K2.out.cell 2))
      go_wp2_with fail
      refine (toProfile_any _ _ A L D P1.out HA.out HL.out HD.out).mono ?_
      rintro e w6 ⟨vX1, rfl, ho, hb⟩
      clear cK10 cK11 cK12 cK20 cK21 cK22
      replace HB := Lib.hid (HB.out.trans (hb.mono HB.out.size))
      replace K1 := Lib.hid (K1.out.later hb)
      replace K2 := Lib.hid (K2.out.later hb)
      replace P1 := Lib.hid (P1.out.later hb)
      replace P2 := Lib.hid (P2.out.later hb)
      replace S1 := Lib.hid (S1.out.later hb)
      replace S2 := Lib.hid (S2.out.later hb)
      have X1 := Lib.hid (ho.PS)
      obtain ⟨x1, x2, x3, x4, x5, x6, x7, x8, x9, rfl, _⟩ := ho.PS.shape
      clear ho
      clear hb
      have cK10 : w6.cell? ⟨w.heap.size, 0, none⟩ = some (Value.slice a1 a2 a3) := K1.out.cell 0
      have cK11 : w6.cell? ⟨w.heap.size, 1, none⟩ = some (Value.slice l1 l2 l3) := K1.out.cell 1
      have cK12 : w6.cell? ⟨w.heap.size, 2, none⟩ = some (Value.slice d1 d2 d3) := K1.out.cell 2
      have cK20 : w6.cell? ⟨w.heap.size + 1, 0, none⟩ = some (Value.slice a1' a2' a3') := K2.out.cell 0
      have cK21 : w6.cell? ⟨w.heap.size + 1, 1, none⟩ = some (Value.slice l1' l2' l3') := K2.out.cell 1
      have cK22 : w6.cell? ⟨w.heap.size + 1, 2, none⟩ = some (Value.slice d1' d2' d3') := K2.out.cell 2
      have hb : Below w6.heap.size w6 (w6.alloc (Obj.cells #[Value.slice x1 x2 x3, Value.slice x4 x5 x6, Value.slice x7 x8 x9] 36)) := (Below.refl _ _).alloc (Nat.le_refl _) _
      clear cK10 cK11 cK12 cK20 cK21 cK22
      replace HB := Lib.hid (HB.out.trans (hb.mono HB.out.size))
      replace K1 := Lib.hid (K1.out.later hb)
      replace K2 := Lib.hid (K2.out.later hb)
      replace P1 := Lib.hid (P1.out.later hb)
      replace P2 := Lib.hid (P2.out.later hb)
      replace S1 := Lib.hid (S1.out.later hb)
      replace S2 := Lib.hid (S2.out.later hb)
      replace X1 := Lib.hid (X1.out.later hb)
      have BX1 := Lib.hid (Blk.new w6 #[Value.slice x1 x2 x3, Value.slice x4 x5 x6, Value.slice x7 x8 x9] 36)
      clear hb
      have cK10 : (w6.alloc (Obj.cells #[Value.slice x1 x2 x3, Value.slice x4 x5 x6, Value.slice x7 x8 x9] 36)).cell? ⟨w.heap.size, 0, none⟩ = some (Value.slice a1 a2 a3) := K1.out.cell 0
      have cK11 : (w6.alloc (Obj.cells #[Value.slice x1 x2 x3, Value.slice x4 x5 x6, Value.slice x7 x8 x9] 36)).cell? ⟨w.heap.size, 1, none⟩ = some (Value.slice l1 l2 l3) := K1.out.cell 1
      have cK12 : (w6.alloc (Obj.cells #[Value.slice x1 x2 x3, Value.slice x4 x5 x6, Value.slice x7 x8 x9] 36)).cell? ⟨w.heap.size, 2, none⟩ = some (Value.slice d1 d2 d3) := K1.out.cell 2
      have cK20 : (w6.alloc (Obj.cells #[Value.slice x1 x2 x3, Value.slice x4 x5 x6, Value.slice x7 x8 x9] 36)).cell? ⟨w.heap.size + 1, 0, none⟩ = some (Value.slice a1' a2' a3') := K2.out.cell 0
      have cK21 : (w6.alloc (Obj.cells #[Value.slice x1 x2 x3, Value.slice x4 x5 x6, Value.slice x7 x8 x9] 36)).cell? ⟨w.heap.size + 1, 1, none⟩ = some (Value.slice l1' l2' l3') := K2.out.cell 1
      have cK22 : (w6.alloc (Obj.cells #[Value.slice x1 x2 x3, Value.slice x4 x5 x6, Value.slice x7 x8 x9] 36)).cell? ⟨w.heap.size + 1, 2, none⟩ = some (Value.slice d1' d2' d3') := K2.out.cell 2
      have cBX10 : (w6.alloc (Obj.cells #[Value.slice x1 x2 x3, Value.slice x4 x5 x6, Value.slice x7 x8 x9] 36)).cell? ⟨w6.heap.size, 0, none⟩ = some (Value.slice x1 x2 x3) := BX1.out.cell 0
      have cBX11 : (w6.alloc (Obj.cells #[Value.slice x1 x2 x3, Value.slice x4 x5 x6, Value.slice x7 x8 x9] 36)).cell? ⟨w6.heap.size, 1, none⟩ = some (Value.slice x4 x5 x6) := BX1.out.cell 1
      have cBX12 : (w6.alloc (Obj.cells #[Value.slice x1 x2 x3, Value.slice x4 x5 x6, Value.slice x7 x8 x9] 36)).cell? ⟨w6.heap.size, 2, none⟩ = some (Value.slice x7 x8 x9) := BX1.out.cell 2
      go_wp2_with fail
      generalize (w6.alloc (Obj.cells #[Value.slice x1 x2 x3, Value.slice x4 x5 x6, Value.slice x7 x8 x9] 36)) = w7 at *
      go_wp2_with fail
      refine (toProfile_any _ _ A' L' D' P2.out HA'.out HL'.out HD'.out).mono ?_
      rintro e w8 ⟨vX2, rfl, ho, hb⟩
      clear cK10 cK11 cK12 cK20 cK21 cK22 cBX10 cBX11 cBX12
      replace HB := Lib.hid (HB.out.trans (hb.mono HB.out.size))
      replace K1 := Lib.hid (K1.out.later hb)
      replace K2 := Lib.hid (K2.out.later hb)
      replace P1 := Lib.hid (P1.out.later hb)
      replace P2 := Lib.hid (P2.out.later hb)
      replace S1 := Lib.hid (S1.out.later hb)
      replace S2 := Lib.hid (S2.out.later hb)
      replace X1 := Lib.hid (X1.out.later hb)
      replace BX1 := Lib.hid (BX1.out.later hb)
      have X2 := Lib.hid (ho.PS)
      obtain ⟨y1, y2, y3, y4, y5, y6, y7, y8, y9, rfl, _⟩ := ho.PS.shape
      clear ho
      clear hb
      have cK10 : w8.cell? ⟨w.heap.size, 0, none⟩ = some (Value.slice a1 a2 a3) := K1.out.cell 0
      have cK11 : w8.cell? ⟨w.heap.size, 1, none⟩ = some (Value.slice l1 l2 l3) := K1.out.cell 1
      have cK12 : w8.cell? ⟨w.heap.size, 2, none⟩ = some (Value.slice d1 d2 d3) := K1.out.cell 2
      have cK20 : w8.cell? ⟨w.heap.size + 1, 0, none⟩ = some (Value.slice a1' a2' a3') := K2.out.cell 0
      have cK21 : w8.cell? ⟨w.heap.size + 1, 1, none⟩ = some (Value.slice l1' l2' l3') := K2.out.cell 1
      have cK22 : w8.cell? ⟨w.heap.size + 1, 2, none⟩ = some (Value.slice d1' d2' d3') := K2.out.cell 2
      have cBX10 : w8.cell? ⟨w6.heap.size, 0, none⟩ = some (Value.slice x1 x2 x3) := BX1.out.cell 0
      have cBX11 : w8.cell? ⟨w6.heap.size, 1, none⟩ = some (Value.slice x4 x5 x6) := BX1.out.cell 1
      have cBX12 : w8.cell? ⟨w6.heap.size, 2, none⟩ = some (Value.slice x7 x8 x9) := BX1.out.cell 2
      have hb : Below w8.heap.size w8 (w8.alloc (Obj.cells #[Value.slice y1 y2 y3, Value.slice y4 y5 y6, Value.slice y7 y8 y9] 36)) := (Below.refl _ _).alloc (Nat.le_refl _) _
      clear cK10 cK11 cK12 cK20 cK21 cK22 cBX10 cBX11 cBX12
      replace HB := Lib.hid (HB.out.trans (hb.mono HB.out.size))
      replace K1 := Lib.hid (K1.out.later hb)
      replace K2 := Lib.hid (K2.out.later hb)
      replace P1 := Lib.hid (P1.out.later hb)
      replace P2 := Lib.hid (P2.out.later hb)
      replace S1 := Lib.hid (S1.out.later hb)
      replace S2 := Lib.hid (S2.out.later hb)
      replace X1 := Lib.hid (X1.out.later hb)
      replace BX1 := Lib.hid (BX1.out.later hb)
      replace X2 := Lib.hid (X2.out.later hb)
      have BX2 := Lib.hid (Blk.new w8 #[Value.slice y1 y2 y3, Value.slice y4 y5 y6, Value.slice y7 y8 y9] 36)
      clear hb
      have cK10 : (w8.alloc (Obj.cells #[Value.slice y1 y2 y3, Value.slice y4 y5 y6, Value.slice y7 y8 y9] 36)).cell? ⟨w.heap.size, 0, none⟩ = some (Value.slice a1 a2 a3) := K1.out.cell 0
      have cK11 : (w8.alloc (Obj.cells #[Value.slice y1 y2 y3, Value.slice y4 y5 y6, Value.slice y7 y8 y9] 36)).cell? ⟨w.heap.size, 1, none⟩ = some (Value.slice l1 l2 l3) := K1.out.cell 1
      have cK12 : (w8.alloc (Obj.cells #[Value.slice y1 y2 y3, Value.slice y4 y5 y6, Value.slice y7 y8 y9] 36)).cell? ⟨w.heap.size, 2, none⟩ = some (Value.slice d1 d2 d3) := K1.out.cell 2
      have cK20 : (w8.alloc (Obj.cells #[Value.slice y1 y2 y3, Value.slice y4 y5 y6, Value.slice y7 y8 y9] 36)).cell? ⟨w.heap.size + 1, 0, none⟩ = some (Value.slice a1' a2' a3') := K2.out.cell 0
      have cK21 : (w8.alloc (Obj.cells #[Value.slice y1 y2 y3, Value.slice y4 y5 y6, Value.slice y7 y8 y9] 36)).cell? ⟨w.heap.size + 1, 1, none⟩ = some (Value.slice l1' l2' l3') := K2.out.cell 1
      have cK22 : (w8.alloc (Obj.cells #[Value.slice y1 y2 y3, Value.slice y4 y5 y6, Value.slice y7 y8 y9] 36)).cell? ⟨w.heap.size + 1, 2, none⟩ = some (Value.slice d1' d2' d3') := K2.out.cell 2
      have cBX10 : (w8.alloc (Obj.cells #[Value.slice y1 y2 y3, Value.slice y4 y5 y6, Value.slice y7 y8 y9] 36)).cell? ⟨w6.heap.size, 0, none⟩ = some (Value.slice x1 x2 x3) := BX1.out.cell 0
      have cBX11 : (w8.alloc (Obj.cells #[Value.slice y1 y2 y3, Value.slice y4 y5 y6, Value.slice y7 y8 y9] 36)).cell? ⟨w6.heap.size, 1, none⟩ = some (Value.slice x4 x5 x6) := BX1.out.cell 1
      have cBX12 : (w8.alloc (Obj.cells #[Value.slice y1 y2 y3, Value.slice y4 y5 y6, Value.slice y7 y8 y9] 36)).cell? ⟨w6.heap.size, 2, none⟩ = some (Value.slice x7 x8 x9) := BX1.out.cell 2
      have cBX20 : (w8.alloc (Obj.cells #[Value.slice y1 y2 y3, Value.slice y4 y5 y6, Value.slice y7 y8 y9] 36)).cell? ⟨w8.heap.size, 0, none⟩ = some (Value.slice y1 y2 y3) := BX2.out.cell 0
      have cBX21 : (w8.alloc (Obj.cells #[Value.slice y1 y2 y3, Value.slice y4 y5 y6, Value.slice y7 y8 y9] 36)).cell? ⟨w8.heap.size, 1, none⟩ = some (Value.slice y4 y5 y6) := BX2.out.cell 1
      have cBX22 : (w8.alloc (Obj.cells #[Value.slice y1 y2 y3, Value.slice y4 y5 y6, Value.slice y7 y8 y9] 36)).cell? ⟨w8.heap.size, 2, none⟩ = some (Value.slice y7 y8 y9) := BX2.out.cell 2
      go_wp2_with fail
      generalize (w8.alloc (Obj.cells #[Value.slice y1 y2 y3, Value.slice y4 y5 y6, Value.slice y7 y8 y9] 36)) = w9 at *
      go_wp2_with fail
      refine (impl_SameProfile _ _ _ A L D A' L' D' X1.out X2.out W1.out W2.out).mono ?_
      rintro e w10 ⟨rfl, hb⟩
      clear cK10 cK11 cK12 cK20 cK21 cK22 cBX10 cBX11 cBX12 cBX20 cBX21 cBX22
      replace HB := Lib.hid (HB.out.trans (hb.mono HB.out.size))
      replace K1 := Lib.hid (K1.out.later hb)
      replace K2 := Lib.hid (K2.out.later hb)
      replace P1 := Lib.hid (P1.out.later hb)
      replace P2 := Lib.hid (P2.out.later hb)
      replace S1 := Lib.hid (S1.out.later hb)
      replace S2 := Lib.hid (S2.out.later hb)
      replace X1 := Lib.hid (X1.out.later hb)
      replace BX1 := Lib.hid (BX1.out.later hb)
      replace X2 := Lib.hid (X2.out.later hb)
      replace BX2 := Lib.hid (BX2.out.later hb)
      clear hb
      have cK10 : w10.cell? ⟨w.heap.size, 0, none⟩ = some (Value.slice a1 a2 a3) := K1.out.cell 0
      have cK11 : w10.cell? ⟨w.heap.size, 1, none⟩ = some (Value.slice l1 l2 l3) := K1.out.cell 1
      have cK12 : w10.cell? ⟨w.heap.size, 2, none⟩ = some (Value.slice d1 d2 d3) := K1.out.cell 2
      have cK20 : w10.cell? ⟨w.heap.size + 1, 0, none⟩ = some (Value.slice a1' a2' a3') := K2.out.cell 0
      have cK21 : w10.cell? ⟨w.heap.size + 1, 1, none⟩ = some (Value.slice l1' l2' l3') := K2.out.cell 1
      have cK22 : w10.cell? ⟨w.heap.size + 1, 2, none⟩ = some (Value.slice d1' d2' d3') := K2.out.cell 2
      have cBX10 : w10.cell? ⟨w6.heap.size, 0, none⟩ = some (Value.slice x1 x2 x3) := BX1.out.cell 0
      have cBX11 : w10.cell? ⟨w6.heap.size, 1, none⟩ = some (Value.slice x4 x5 x6) := BX1.out.cell 1
      have cBX12 : w10.cell? ⟨w6.heap.size, 2, none⟩ = some (Value.slice x7 x8 x9) := BX1.out.cell 2
      have cBX20 : w10.cell? ⟨w8.heap.size, 0, none⟩ = some (Value.slice y1 y2 y3) := BX2.out.cell 0
      have cBX21 : w10.cell? ⟨w8.heap.size, 1, none⟩ = some (Value.slice y4 y5 y6) := BX2.out.cell 1
      have cBX22 : w10.cell? ⟨w8.heap.size, 2, none⟩ = some (Value.slice y7 y8 y9) := BX2.out.cell 2
      go_wp2_with fail
      have hb : Below w10.heap.size w10 w10.drew := below_dn (Below.refl _ _) 1
      clear cK10 cK11 cK12 cK20 cK21 cK22 cBX10 cBX11 cBX12 cBX20 cBX21 cBX22
      replace HB := Lib.hid (HB.out.trans (hb.mono HB.out.size))
      replace K1 := Lib.hid (K1.out.later hb)
      replace K2 := Lib.hid (K2.out.later hb)
      replace P1 := Lib.hid (P1.out.later hb)
      replace P2 := Lib.hid (P2.out.later hb)
      replace S1 := Lib.hid (S1.out.later hb)
      replace S2 := Lib.hid (S2.out.later hb)
      replace X1 := Lib.hid (X1.out.later hb)
      replace BX1 := Lib.hid (BX1.out.later hb)
      replace X2 := Lib.hid (X2.out.later hb)
      replace BX2 := Lib.hid (BX2.out.later hb)
      clear hb
      have cK10 : w10.drew.cell? ⟨w.heap.size, 0, none⟩ = some (Value.slice a1 a2 a3) := K1.out.cell 0
      have cK11 : w10.drew.cell? ⟨w.heap.size, 1, none⟩ = some (Value.slice l1 l2 l3) := K1.out.cell 1
      have cK12 : w10.drew.cell? ⟨w.heap.size, 2, none⟩ = some (Value.slice d1 d2 d3) := K1.out.cell 2
      have cK20 : w10.drew.cell? ⟨w.heap.size + 1, 0, none⟩ = some (Value.slice a1' a2' a3') := K2.out.cell 0
      have cK21 : w10.drew.cell? ⟨w.heap.size + 1, 1, none⟩ = some (Value.slice l1' l2' l3') := K2.out.cell 1
      have cK22 : w10.drew.cell? ⟨w.heap.size + 1, 2, none⟩ = some (Value.slice d1' d2' d3') := K2.out.cell 2
      have cBX10 : w10.drew.cell? ⟨w6.heap.size, 0, none⟩ = some (Value.slice x1 x2 x3) := BX1.out.cell 0
      have cBX11 : w10.drew.cell? ⟨w6.heap.size, 1, none⟩ = some (Value.slice x4 x5 x6) := BX1.out.cell 1
      have cBX12 : w10.drew.cell? ⟨w6.heap.size, 2, none⟩ = some (Value.slice x7 x8 x9) := BX1.out.cell 2
      have cBX20 : w10.drew.cell? ⟨w8.heap.size, 0, none⟩ = some (Value.slice y1 y2 y3) := BX2.out.cell 0
      have cBX21 : w10.drew.cell? ⟨w8.heap.size, 1, none⟩ = some (Value.slice y4 y5 y6) := BX2.out.cell 1
      have cBX22 : w10.drew.cell? ⟨w8.heap.size, 2, none⟩ = some (Value.slice y7 y8 y9) := BX2.out.cell 2
      have T0 : True := trivial
      have T1 : True := trivial
      go_region_held3 (fun w' => w'.cell? ⟨w6.heap.size, 0, none⟩ = some (Value.slice x1 x2 x3) ∧ w'.cell? ⟨w6.heap.size, 1, none⟩ = some (Value.slice x4 x5 x6) ∧ w'.cell? ⟨w6.heap.size, 2, none⟩ = some (Value.slice x7 x8 x9) ∧ w'.cell? ⟨w.heap.size, 0, none⟩ = some (Value.slice a1 a2 a3) ∧ w'.cell? ⟨w.heap.size, 1, none⟩ = some (Value.slice l1 l2 l3) ∧ w'.cell? ⟨w.heap.size, 2, none⟩ = some (Value.slice d1 d2 d3)) (exact ⟨cBX10, cBX11, cBX12, cK10, cK11, cK12⟩) (first
        | (clear T0; go_at_call 26; refine (toProfile_any _ _ A L D P1.out HA.out HL.out HD.out).mono ?_; rintro e w11 ⟨vY1, rfl, ho, hb⟩; clear cK10 cK11 cK12 cK20 cK21 cK22 cBX10 cBX11 cBX12 cBX20 cBX21 cBX22; replace HB := Lib.hid (HB.out.trans (hb.mono HB.out.size)); replace K1 := Lib.hid (K1.out.later hb); replace K2 := Lib.hid (K2.out.later hb); replace P1 := Lib.hid (P1.out.later hb); replace P2 := Lib.hid (P2.out.later hb); replace S1 := Lib.hid (S1.out.later hb); replace S2 := Lib.hid (S2.out.later hb); replace X1 := Lib.hid (X1.out.later hb); replace BX1 := Lib.hid (BX1.out.later hb); replace X2 := Lib.hid (X2.out.later hb); replace BX2 := Lib.hid (BX2.out.later hb); have Y1 := Lib.hid (ho.PS); clear ho; clear hb; have cK10 : w11.cell? ⟨w.heap.size, 0, none⟩ = some (Value.slice a1 a2 a3) := K1.out.cell 0; have cK11 : w11.cell? ⟨w.heap.size, 1, none⟩ = some (Value.slice l1 l2 l3) := K1.out.cell 1; have cK12 : w11.cell? ⟨w.heap.size, 2, none⟩ = some (Value.slice d1 d2 d3) := K1.out.cell 2; have cK20 : w11.cell? ⟨w.heap.size + 1, 0, none⟩ = some (Value.slice a1' a2' a3') := K2.out.cell 0; have cK21 : w11.cell? ⟨w.heap.size + 1, 1, none⟩ = some (Value.slice l1' l2' l3') := K2.out.cell 1; have cK22 : w11.cell? ⟨w.heap.size + 1, 2, none⟩ = some (Value.slice d1' d2' d3') := K2.out.cell 2; have cBX10 : w11.cell? ⟨w6.heap.size, 0, none⟩ = some (Value.slice x1 x2 x3) := BX1.out.cell 0; have cBX11 : w11.cell? ⟨w6.heap.size, 1, none⟩ = some (Value.slice x4 x5 x6) := BX1.out.cell 1; have cBX12 : w11.cell? ⟨w6.heap.size, 2, none⟩ = some (Value.slice x7 x8 x9) := BX1.out.cell 2; have cBX20 : w11.cell? ⟨w8.heap.size, 0, none⟩ = some (Value.slice y1 y2 y3) := BX2.out.cell 0; have cBX21 : w11.cell? ⟨w8.heap.size, 1, none⟩ = some (Value.slice y4 y5 y6) := BX2.out.cell 1; have cBX22 : w11.cell? ⟨w8.heap.size, 2, none⟩ = some (Value.slice y7 y8 y9) := BX2.out.cell 2)
        | (clear T1; go_at_call 28; refine (eqProfile_true _ _ _ A L D A L D X1.out Y1.out (.refl _) (.refl _) (.refl _)).mono ?_; rintro e w12 ⟨rfl, hb⟩; clear cK10 cK11 cK12 cK20 cK21 cK22 cBX10 cBX11 cBX12 cBX20 cBX21 cBX22; replace HB := Lib.hid (HB.out.trans (hb.mono HB.out.size)); replace K1 := Lib.hid (K1.out.later hb); replace K2 := Lib.hid (K2.out.later hb); replace P1 := Lib.hid (P1.out.later hb); replace P2 := Lib.hid (P2.out.later hb); replace S1 := Lib.hid (S1.out.later hb); replace S2 := Lib.hid (S2.out.later hb); replace X1 := Lib.hid (X1.out.later hb); replace BX1 := Lib.hid (BX1.out.later hb); replace X2 := Lib.hid (X2.out.later hb); replace BX2 := Lib.hid (BX2.out.later hb); replace Y1 := Lib.hid (Y1.out.later hb); clear hb; have cK10 : w12.cell? ⟨w.heap.size, 0, none⟩ = some (Value.slice a1 a2 a3) := K1.out.cell 0; have cK11 : w12.cell? ⟨w.heap.size, 1, none⟩ = some (Value.slice l1 l2 l3) := K1.out.cell 1; have cK12 : w12.cell? ⟨w.heap.size, 2, none⟩ = some (Value.slice d1 d2 d3) := K1.out.cell 2; have cK20 : w12.cell? ⟨w.heap.size + 1, 0, none⟩ = some (Value.slice a1' a2' a3') := K2.out.cell 0; have cK21 : w12.cell? ⟨w.heap.size + 1, 1, none⟩ = some (Value.slice l1' l2' l3') := K2.out.cell 1; have cK22 : w12.cell? ⟨w.heap.size + 1, 2, none⟩ = some (Value.slice d1' d2' d3') := K2.out.cell 2; have cBX10 : w12.cell? ⟨w6.heap.size, 0, none⟩ = some (Value.slice x1 x2 x3) := BX1.out.cell 0; have cBX11 : w12.cell? ⟨w6.heap.size, 1, none⟩ = some (Value.slice x4 x5 x6) := BX1.out.cell 1; have cBX12 : w12.cell? ⟨w6.heap.size, 2, none⟩ = some (Value.slice x7 x8 x9) := BX1.out.cell 2; have cBX20 : w12.cell? ⟨w8.heap.size, 0, none⟩ = some (Value.slice y1 y2 y3) := BX2.out.cell 0; have cBX21 : w12.cell? ⟨w8.heap.size, 1, none⟩ = some (Value.slice y4 y5 y6) := BX2.out.cell 1; have cBX22 : w12.cell? ⟨w8.heap.size, 2, none⟩ = some (Value.slice y7 y8 y9) := BX2.out.cell 2))
      go_wp2_with fail
      have hb : Below w12.heap.size w12 w12.drew := below_dn (Below.refl _ _) 1
      clear cK10 cK11 cK12 cK20 cK21 cK22 cBX10 cBX11 cBX12 cBX20 cBX21 cBX22
      replace HB := Lib.hid (HB.out.trans (hb.mono HB.out.size))
      replace K1 := Lib.hid (K1.out.later hb)
      replace K2 := Lib.hid (K2.out.later hb)
      replace P1 := Lib.hid (P1.out.later hb)
      replace P2 := Lib.hid (P2.out.later hb)
      replace S1 := Lib.hid (S1.out.later hb)
      replace S2 := Lib.hid (S2.out.later hb)
      replace X1 := Lib.hid (X1.out.later hb)
      replace BX1 := Lib.hid (BX1.out.later hb)
      replace X2 := Lib.hid (X2.out.later hb)
      replace BX2 := Lib.hid (BX2.out.later hb)
      replace Y1 := Lib.hid (Y1.out.later hb)
      clear hb
      have cK10 : w12.drew.cell? ⟨w.heap.size, 0, none⟩ = some (Value.slice a1 a2 a3) := K1.out.cell 0
      have cK11 : w12.drew.cell? ⟨w.heap.size, 1, none⟩ = some (Value.slice l1 l2 l3) := K1.out.cell 1
      have cK12 : w12.drew.cell? ⟨w.heap.size, 2, none⟩ = some (Value.slice d1 d2 d3) := K1.out.cell 2
      have cK20 : w12.drew.cell? ⟨w.heap.size + 1, 0, none⟩ = some (Value.slice a1' a2' a3') := K2.out.cell 0
      have cK21 : w12.drew.cell? ⟨w.heap.size + 1, 1, none⟩ = some (Value.slice l1' l2' l3') := K2.out.cell 1
      have cK22 : w12.drew.cell? ⟨w.heap.size + 1, 2, none⟩ = some (Value.slice d1' d2' d3') := K2.out.cell 2
      have cBX10 : w12.drew.cell? ⟨w6.heap.size, 0, none⟩ = some (Value.slice x1 x2 x3) := BX1.out.cell 0
      have cBX11 : w12.drew.cell? ⟨w6.heap.size, 1, none⟩ = some (Value.slice x4 x5 x6) := BX1.out.cell 1
      have cBX12 : w12.drew.cell? ⟨w6.heap.size, 2, none⟩ = some (Value.slice x7 x8 x9) := BX1.out.cell 2
      have cBX20 : w12.drew.cell? ⟨w8.heap.size, 0, none⟩ = some (Value.slice y1 y2 y3) := BX2.out.cell 0
      have cBX21 : w12.drew.cell? ⟨w8.heap.size, 1, none⟩ = some (Value.slice y4 y5 y6) := BX2.out.cell 1
      have cBX22 : w12.drew.cell? ⟨w8.heap.size, 2, none⟩ = some (Value.slice y7 y8 y9) := BX2.out.cell 2
      have T0 : True := trivial
      have T1 : True := trivial
      go_region_held3 (fun w' => w'.cell? ⟨w8.heap.size, 0, none⟩ = some (Value.slice y1 y2 y3) ∧ w'.cell? ⟨w8.heap.size, 1, none⟩ = some (Value.slice y4 y5 y6) ∧ w'.cell? ⟨w8.heap.size, 2, none⟩ = some (Value.slice y7 y8 y9) ∧ w'.cell? ⟨w.heap.size + 1, 0, none⟩ = some (Value.slice a1' a2' a3') ∧ w'.cell? ⟨w.heap.size + 1, 1, none⟩ = some (Value.slice l1' l2' l3') ∧ w'.cell? ⟨w.heap.size + 1, 2, none⟩ = some (Value.slice d1' d2' d3')) (exact ⟨cBX20, cBX21, cBX22, cK20, cK21, cK22⟩) (first
        | (clear T0; go_at_call 26; refine (toProfile_any _ _ A' L' D' P2.out HA'.out HL'.out HD'.out).mono ?_; rintro e w13 ⟨vY2, rfl, ho, hb⟩; clear cK10 cK11 cK12 cK20 cK21 cK22 cBX10 cBX11 cBX12 cBX20 cBX21 cBX22; replace HB := Lib.hid (HB.out.trans (hb.mono HB.out.size)); replace K1 := Lib.hid (K1.out.later hb); replace K2 := Lib.hid (K2.out.later hb); replace P1 := Lib.hid (P1.out.later hb); replace P2 := Lib.hid (P2.out.later hb); replace S1 := Lib.hid (S1.out.later hb); replace S2 := Lib.hid (S2.out.later hb); replace X1 := Lib.hid (X1.out.later hb); replace BX1 := Lib.hid (BX1.out.later hb); replace X2 := Lib.hid (X2.out.later hb); replace BX2 := Lib.hid (BX2.out.later hb); replace Y1 := Lib.hid (Y1.out.later hb); have Y2 := Lib.hid (ho.PS); clear ho; clear hb; have cK10 : w13.cell? ⟨w.heap.size, 0, none⟩ = some (Value.slice a1 a2 a3) := K1.out.cell 0; have cK11 : w13.cell? ⟨w.heap.size, 1, none⟩ = some (Value.slice l1 l2 l3) := K1.out.cell 1; have cK12 : w13.cell? ⟨w.heap.size, 2, none⟩ = some (Value.slice d1 d2 d3) := K1.out.cell 2; have cK20 : w13.cell? ⟨w.heap.size + 1, 0, none⟩ = some (Value.slice a1' a2' a3') := K2.out.cell 0; have cK21 : w13.cell? ⟨w.heap.size + 1, 1, none⟩ = some (Value.slice l1' l2' l3') := K2.out.cell 1; have cK22 : w13.cell? ⟨w.heap.size + 1, 2, none⟩ = some (Value.slice d1' d2' d3') := K2.out.cell 2; have cBX10 : w13.cell? ⟨w6.heap.size, 0, none⟩ = some (Value.slice x1 x2 x3) := BX1.out.cell 0; have cBX11 : w13.cell? ⟨w6.heap.size, 1, none⟩ = some (Value.slice x4 x5 x6) := BX1.out.cell 1; have cBX12 : w13.cell? ⟨w6.heap.size, 2, none⟩ = some (Value.slice x7 x8 x9) := BX1.out.cell 2; have cBX20 : w13.cell? ⟨w8.heap.size, 0, none⟩ = some (Value.slice y1 y2 y3) := BX2.out.cell 0; have cBX21 : w13.cell? ⟨w8.heap.size, 1, none⟩ = some (Value.slice y4 y5 y6) := BX2.out.cell 1; have cBX22 : w13.cell? ⟨w8.heap.size, 2, none⟩ = some (Value.slice y7 y8 y9) := BX2.out.cell 2)
        | (clear T1; go_at_call 28; refine (eqProfile_true _ _ _ A' L' D' A' L' D' X2.out Y2.out (.refl _) (.refl _) (.refl _)).mono ?_; rintro e w14 ⟨rfl, hb⟩; clear cK10 cK11 cK12 cK20 cK21 cK22 cBX10 cBX11 cBX12 cBX20 cBX21 cBX22; replace HB := Lib.hid (HB.out.trans (hb.mono HB.out.size)); replace K1 := Lib.hid (K1.out.later hb); replace K2 := Lib.hid (K2.out.later hb); replace P1 := Lib.hid (P1.out.later hb); replace P2 := Lib.hid (P2.out.later hb); replace S1 := Lib.hid (S1.out.later hb); replace S2 := Lib.hid (S2.out.later hb); replace X1 := Lib.hid (X1.out.later hb); replace BX1 := Lib.hid (BX1.out.later hb); replace X2 := Lib.hid (X2.out.later hb); replace BX2 := Lib.hid (BX2.out.later hb); replace Y1 := Lib.hid (Y1.out.later hb); replace Y2 := Lib.hid (Y2.out.later hb); clear hb; have cK10 : w14.cell? ⟨w.heap.size, 0, none⟩ = some (Value.slice a1 a2 a3) := K1.out.cell 0; have cK11 : w14.cell? ⟨w.heap.size, 1, none⟩ = some (Value.slice l1 l2 l3) := K1.out.cell 1; have cK12 : w14.cell? ⟨w.heap.size, 2, none⟩ = some (Value.slice d1 d2 d3) := K1.out.cell 2; have cK20 : w14.cell? ⟨w.heap.size + 1, 0, none⟩ = some (Value.slice a1' a2' a3') := K2.out.cell 0; have cK21 : w14.cell? ⟨w.heap.size + 1, 1, none⟩ = some (Value.slice l1' l2' l3') := K2.out.cell 1; have cK22 : w14.cell? ⟨w.heap.size + 1, 2, none⟩ = some (Value.slice d1' d2' d3') := K2.out.cell 2; have cBX10 : w14.cell? ⟨w6.heap.size, 0, none⟩ = some (Value.slice x1 x2 x3) := BX1.out.cell 0; have cBX11 : w14.cell? ⟨w6.heap.size, 1, none⟩ = some (Value.slice x4 x5 x6) := BX1.out.cell 1; have cBX12 : w14.cell? ⟨w6.heap.size, 2, none⟩ = some (Value.slice x7 x8 x9) := BX1.out.cell 2; have cBX20 : w14.cell? ⟨w8.heap.size, 0, none⟩ = some (Value.slice y1 y2 y3) := BX2.out.cell 0; have cBX21 : w14.cell? ⟨w8.heap.size, 1, none⟩ = some (Value.slice y4 y5 y6) := BX2.out.cell 1; have cBX22 : w14.cell? ⟨w8.heap.size, 2, none⟩ = some (Value.slice y7 y8 y9) := BX2.out.cell 2))
      go_wp2
      go_ret
      exact .mk' rfl HB.out
    · have HS := Lib.hid hs0; have HS' := Lib.hid hs1; clear hs0 hs1
      go_enter Try.func5, Try.ntmps5
      go_wp2_with fail
      obtain ⟨w0, hw0⟩ : ∃ w0, w0 = ((w.alloc (Obj.cells #[Value.slice a1 a2 a3, Value.slice l1 l2 l3, Value.slice d1 d2 d3] 33)).alloc (Obj.cells #[Value.slice a1' a2' a3', Value.slice l1' l2' l3', Value.slice d1' d2' d3'] 33)) := ⟨_, rfl⟩
      have HB : Hid (Below w.heap.size w w0) := Lib.hid (by rw [hw0]; exact (((Below.refl _ _).alloc (by simp) _).alloc (by simp) _))
      have K1 : Hid (Blk w0 (w.heap.size) #[Value.slice a1 a2 a3, Value.slice l1 l2 l3, Value.slice d1 d2 d3] 33) := Lib.hid (by rw [hw0]; have := ((Blk.new w #[Value.slice a1 a2 a3, Value.slice l1 l2 l3, Value.slice d1 d2 d3] 33).alloc (Obj.cells #[Value.slice a1' a2' a3', Value.slice l1' l2' l3', Value.slice d1' d2' d3'] 33)); simpa using this)
      have K2 : Hid (Blk w0 (w.heap.size + 1) #[Value.slice a1' a2' a3', Value.slice l1' l2' l3', Value.slice d1' d2' d3'] 33) := Lib.hid (by rw [hw0]; have := (Blk.new (w.alloc (Obj.cells #[Value.slice a1 a2 a3, Value.slice l1 l2 l3, Value.slice d1 d2 d3] 33)) #[Value.slice a1' a2' a3', Value.slice l1' l2' l3', Value.slice d1' d2' d3'] 33); simpa using this)
      replace P1 := Lib.hid (P1.out.later HB.out)
      replace P2 := Lib.hid (P2.out.later HB.out)
      rw [← hw0]
      clear hw0
      have cK10 : w0.cell? ⟨w.heap.size, 0, none⟩ = some (Value.slice a1 a2 a3) := K1.out.cell 0
      have cK11 : w0.cell? ⟨w.heap.size, 1, none⟩ = some (Value.slice l1 l2 l3) := K1.out.cell 1
      have cK12 : w0.cell? ⟨w.heap.size, 2, none⟩ = some (Value.slice d1 d2 d3) := K1.out.cell 2
      have cK20 : w0.cell? ⟨w.heap.size + 1, 0, none⟩ = some (Value.slice a1' a2' a3') := K2.out.cell 0
      have cK21 : w0.cell? ⟨w.heap.size + 1, 1, none⟩ = some (Value.slice l1' l2' l3') := K2.out.cell 1
      have cK22 : w0.cell? ⟨w.heap.size + 1, 2, none⟩ = some (Value.slice d1' d2' d3') := K2.out.cell 2
      refine (szProfile_fits _ _ A L D 1048576 P1.out (by omega) HS.out).mono ?_
      rintro e w1 ⟨rfl, hb⟩
      clear cK10 cK11 cK12 cK20 cK21 cK22
      replace HB := Lib.hid (HB.out.trans (hb.mono HB.out.size))
      replace K1 := Lib.hid (K1.out.later hb)
      replace K2 := Lib.hid (K2.out.later hb)
      replace P1 := Lib.hid (P1.out.later hb)
      replace P2 := Lib.hid (P2.out.later hb)
      have h0 : (0 : Int) ≤ 1048576 - A.length - L.length - D.length := by have := HS.out; omega
      clear hb
      have cK10 : w1.cell? ⟨w.heap.size, 0, none⟩ = some (Value.slice a1 a2 a3) := K1.out.cell 0
      have cK11 : w1.cell? ⟨w.heap.size, 1, none⟩ = some (Value.slice l1 l2 l3) := K1.out.cell 1
      have cK12 : w1.cell? ⟨w.heap.size, 2, none⟩ = some (Value.slice d1 d2 d3) := K1.out.cell 2
      have cK20 : w1.cell? ⟨w.heap.size + 1, 0, none⟩ = some (Value.slice a1' a2' a3') := K2.out.cell 0
      have cK21 : w1.cell? ⟨w.heap.size + 1, 1, none⟩ = some (Value.slice l1' l2' l3') := K2.out.cell 1
      have cK22 : w1.cell? ⟨w.heap.size + 1, 2, none⟩ = some (Value.slice d1' d2' d3') := K2.out.cell 2
      go_wp2_with fail
      refine (szProfile_over _ _ A' L' D' _ P2.out (by omega) (by omega) (by have := HS'.out; omega)).mono ?_
      rintro e w2 ⟨rfl, hb⟩
      clear cK10 cK11 cK12 cK20 cK21 cK22
      replace HB := Lib.hid (HB.out.trans (hb.mono HB.out.size))
      replace K1 := Lib.hid (K1.out.later hb)
      replace K2 := Lib.hid (K2.out.later hb)
      replace P1 := Lib.hid (P1.out.later hb)
      replace P2 := Lib.hid (P2.out.later hb)
      clear hb
      have cK10 : w2.cell? ⟨w.heap.size, 0, none⟩ = some (Value.slice a1 a2 a3) := K1.out.cell 0
      have cK11 : w2.cell? ⟨w.heap.size, 1, none⟩ = some (Value.slice l1 l2 l3) := K1.out.cell 1
      have cK12 : w2.cell? ⟨w.heap.size, 2, none⟩ = some (Value.slice d1 d2 d3) := K1.out.cell 2
      have cK20 : w2.cell? ⟨w.heap.size + 1, 0, none⟩ = some (Value.slice a1' a2' a3') := K2.out.cell 0
      have cK21 : w2.cell? ⟨w.heap.size + 1, 1, none⟩ = some (Value.slice l1' l2' l3') := K2.out.cell 1
      have cK22 : w2.cell? ⟨w.heap.size + 1, 2, none⟩ = some (Value.slice d1' d2' d3') := K2.out.cell 2
      go_wp2
      go_ret
      exact .mk' rfl HB.out
  · have HS := Lib.hid hs0; clear hs0
    go_enter Try.func5, Try.ntmps5
    go_wp2_with fail
    obtain ⟨w0, hw0⟩ : ∃ w0, w0 = ((w.alloc (Obj.cells #[Value.slice a1 a2 a3, Value.slice l1 l2 l3, Value.slice d1 d2 d3] 33)).alloc (Obj.cells #[Value.slice a1' a2' a3', Value.slice l1' l2' l3', Value.slice d1' d2' d3'] 33)) := ⟨_, rfl⟩
    have HB : Hid (Below w.heap.size w w0) := Lib.hid (by rw [hw0]; exact (((Below.refl _ _).alloc (by simp) _).alloc (by simp) _))
    have K1 : Hid (Blk w0 (w.heap.size) #[Value.slice a1 a2 a3, Value.slice l1 l2 l3, Value.slice d1 d2 d3] 33) := Lib.hid (by rw [hw0]; have := ((Blk.new w #[Value.slice a1 a2 a3, Value.slice l1 l2 l3, Value.slice d1 d2 d3] 33).alloc (Obj.cells #[Value.slice a1' a2' a3', Value.slice l1' l2' l3', Value.slice d1' d2' d3'] 33)); simpa using this)
    have K2 : Hid (Blk w0 (w.heap.size + 1) #[Value.slice a1' a2' a3', Value.slice l1' l2' l3', Value.slice d1' d2' d3'] 33) := Lib.hid (by rw [hw0]; have := (Blk.new (w.alloc (Obj.cells #[Value.slice a1 a2 a3, Value.slice l1 l2 l3, Value.slice d1 d2 d3] 33)) #[Value.slice a1' a2' a3', Value.slice l1' l2' l3', Value.slice d1' d2' d3'] 33); simpa using this)
    replace P1 := Lib.hid (P1.out.later HB.out)
    replace P2 := Lib.hid (P2.out.later HB.out)
    rw [← hw0]
    clear hw0
    have cK10 : w0.cell? ⟨w.heap.size, 0, none⟩ = some (Value.slice a1 a2 a3) := K1.out.cell 0
    have cK11 : w0.cell? ⟨w.heap.size, 1, none⟩ = some (Value.slice l1 l2 l3) := K1.out.cell 1
    have cK12 : w0.cell? ⟨w.heap.size, 2, none⟩ = some (Value.slice d1 d2 d3) := K1.out.cell 2
    have cK20 : w0.cell? ⟨w.heap.size + 1, 0, none⟩ = some (Value.slice a1' a2' a3') := K2.out.cell 0
    have cK21 : w0.cell? ⟨w.heap.size + 1, 1, none⟩ = some (Value.slice l1' l2' l3') := K2.out.cell 1
    have cK22 : w0.cell? ⟨w.heap.size + 1, 2, none⟩ = some (Value.slice d1' d2' d3') := K2.out.cell 2
    refine (szProfile_over _ _ A L D 1048576 P1.out (by omega) (by omega) (by have := HS.out; omega)).mono ?_
    rintro e w1 ⟨rfl, hb⟩
    clear cK10 cK11 cK12 cK20 cK21 cK22
    replace HB := Lib.hid (HB.out.trans (hb.mono HB.out.size))
    replace K1 := Lib.hid (K1.out.later hb)
    replace K2 := Lib.hid (K2.out.later hb)
    replace P1 := Lib.hid (P1.out.later hb)
    replace P2 := Lib.hid (P2.out.later hb)
    clear hb
    have cK10 : w1.cell? ⟨w.heap.size, 0, none⟩ = some (Value.slice a1 a2 a3) := K1.out.cell 0
    have cK11 : w1.cell? ⟨w.heap.size, 1, none⟩ = some (Value.slice l1 l2 l3) := K1.out.cell 1
    have cK12 : w1.cell? ⟨w.heap.size, 2, none⟩ = some (Value.slice d1 d2 d3) := K1.out.cell 2
    have cK20 : w1.cell? ⟨w.heap.size + 1, 0, none⟩ = some (Value.slice a1' a2' a3') := K2.out.cell 0
    have cK21 : w1.cell? ⟨w.heap.size + 1, 1, none⟩ = some (Value.slice l1' l2' l3') := K2.out.cell 1
    have cK22 : w1.cell? ⟨w.heap.size + 1, 2, none⟩ = some (Value.slice d1' d2' d3') := K2.out.cell 2
    go_wp2
    go_ret
    exact .mk' rfl HB.out

end Go.Proofs.Ytdkgdinbglkjcaa
