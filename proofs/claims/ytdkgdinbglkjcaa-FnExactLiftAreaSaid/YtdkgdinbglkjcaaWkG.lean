/- The law of LiftArea, walked. -/
import Derived.Test.YtdkgdinbglkjcaaWk16
import Derived.Test.YtdkgdinbglkjcaaWk4
import Derived.Deep.RegionHeld3
namespace Go.Proofs.Ytdkgdinbglkjcaa
open Fl Go.RowKit

theorem areaR_as {f : FuncId} {args : Array Value} {w : World} {v v' : Value} (h : Calls Try.prog f args w (RetB v w)) (e : v = v') : Calls Try.prog f args w (RetB v' w) := e ▸ h



set_option maxRecDepth 4000 in
set_option maxHeartbeats 1600000 in
theorem law_LiftArea (w : World) (v : Value) (A L D : List Nat) (h : PS w v A L D) :
    Calls Try.prog 10 #[v] w (RetB (.bool true) w) := by
  obtain ⟨a1, a2, a3, l1, l2, l3, d1, d2, d3, rfl, _⟩ := h.shape
  have P1 := Lib.hid h
  clear h
  obtain ⟨gz, go, hg0⟩ := areaR_shape A L D
  have HG := Lib.hid hg0
  clear hg0
  by_cases hs0 : (A.length : Int) + L.length + D.length ≤ 1048576
  · have HA : Hid (A.length ≤ 1048576) := Lib.hid (by omega)
    have HL : Hid (L.length ≤ 1048576) := Lib.hid (by omega)
    have HD : Hid (D.length ≤ 1048576) := Lib.hid (by omega)
    have HS := Lib.hid hs0
    clear hs0
    go_enter Try.func10, Try.ntmps10
    go_wp2_with fail
    obtain ⟨w0, hw0⟩ : ∃ w0, w0 = (w.alloc (Obj.cells #[Value.slice a1 a2 a3, Value.slice l1 l2 l3, Value.slice d1 d2 d3] 33)) := ⟨_, rfl⟩
    have HB : Hid (Below w.heap.size w w0) := Lib.hid (by rw [hw0]; exact ((Below.refl _ _).alloc (by simp) _))
    have K1 : Hid (Blk w0 (w.heap.size) #[Value.slice a1 a2 a3, Value.slice l1 l2 l3, Value.slice d1 d2 d3] 33) := Lib.hid (by rw [hw0]; have := (Blk.new w #[Value.slice a1 a2 a3, Value.slice l1 l2 l3, Value.slice d1 d2 d3] 33); simpa using this)
    replace P1 := Lib.hid (P1.out.later HB.out)
    rw [← hw0]
    clear hw0
    have cK10 : w0.cell? ⟨w.heap.size, 0, none⟩ = some (Value.slice a1 a2 a3) := K1.out.cell 0
    have cK11 : w0.cell? ⟨w.heap.size, 1, none⟩ = some (Value.slice l1 l2 l3) := K1.out.cell 1
    have cK12 : w0.cell? ⟨w.heap.size, 2, none⟩ = some (Value.slice d1 d2 d3) := K1.out.cell 2
    refine (szProfile_fits _ _ A L D 1048576 P1.out (by omega) HS.out).mono ?_
    rintro e w1 ⟨rfl, hb⟩
    clear cK10 cK11 cK12
    replace HB := Lib.hid (HB.out.trans (hb.mono HB.out.size))
    replace K1 := Lib.hid (K1.out.later hb)
    replace P1 := Lib.hid (P1.out.later hb)
    have h0 : (0 : Int) ≤ 1048576 - A.length - L.length - D.length := by have := HS.out; omega
    clear hb
    have cK10 : w1.cell? ⟨w.heap.size, 0, none⟩ = some (Value.slice a1 a2 a3) := K1.out.cell 0
    have cK11 : w1.cell? ⟨w.heap.size, 1, none⟩ = some (Value.slice l1 l2 l3) := K1.out.cell 1
    have cK12 : w1.cell? ⟨w.heap.size, 2, none⟩ = some (Value.slice d1 d2 d3) := K1.out.cell 2
    go_wp2_with fail
    refine (toProfile_any _ _ A L D P1.out HA.out HL.out HD.out).mono ?_
    rintro e w2 ⟨vS1, rfl, ho, hb⟩
    clear cK10 cK11 cK12
    replace HB := Lib.hid (HB.out.trans (hb.mono HB.out.size))
    replace K1 := Lib.hid (K1.out.later hb)
    replace P1 := Lib.hid (P1.out.later hb)
    have S1 := Lib.hid (ho.PS)
    clear ho
    clear hb
    have cK10 : w2.cell? ⟨w.heap.size, 0, none⟩ = some (Value.slice a1 a2 a3) := K1.out.cell 0
    have cK11 : w2.cell? ⟨w.heap.size, 1, none⟩ = some (Value.slice l1 l2 l3) := K1.out.cell 1
    have cK12 : w2.cell? ⟨w.heap.size, 2, none⟩ = some (Value.slice d1 d2 d3) := K1.out.cell 2
    go_wp2_with fail
    refine (areaR_as (spec_LiftArea _ _ A L D S1.out) HG.out).mono ?_
    rintro e w3 ⟨rfl, hb⟩
    clear cK10 cK11 cK12
    replace HB := Lib.hid (HB.out.trans (hb.mono HB.out.size))
    replace K1 := Lib.hid (K1.out.later hb)
    replace P1 := Lib.hid (P1.out.later hb)
    replace S1 := Lib.hid (S1.out.later hb)
    clear hb
    have cK10 : w3.cell? ⟨w.heap.size, 0, none⟩ = some (Value.slice a1 a2 a3) := K1.out.cell 0
    have cK11 : w3.cell? ⟨w.heap.size, 1, none⟩ = some (Value.slice l1 l2 l3) := K1.out.cell 1
    have cK12 : w3.cell? ⟨w.heap.size, 2, none⟩ = some (Value.slice d1 d2 d3) := K1.out.cell 2
    go_wp2_with fail
    refine (toProfile_any _ _ A L D P1.out HA.out HL.out HD.out).mono ?_
    rintro e w4 ⟨vX1, rfl, ho, hb⟩
    clear cK10 cK11 cK12
    replace HB := Lib.hid (HB.out.trans (hb.mono HB.out.size))
    replace K1 := Lib.hid (K1.out.later hb)
    replace P1 := Lib.hid (P1.out.later hb)
    replace S1 := Lib.hid (S1.out.later hb)
    have X1 := Lib.hid (ho.PS)
    obtain ⟨x1, x2, x3, x4, x5, x6, x7, x8, x9, rfl, _⟩ := ho.PS.shape
    clear ho
    clear hb
    have cK10 : w4.cell? ⟨w.heap.size, 0, none⟩ = some (Value.slice a1 a2 a3) := K1.out.cell 0
    have cK11 : w4.cell? ⟨w.heap.size, 1, none⟩ = some (Value.slice l1 l2 l3) := K1.out.cell 1
    have cK12 : w4.cell? ⟨w.heap.size, 2, none⟩ = some (Value.slice d1 d2 d3) := K1.out.cell 2
    have hb : Below w4.heap.size w4 (w4.alloc (Obj.cells #[Value.slice x1 x2 x3, Value.slice x4 x5 x6, Value.slice x7 x8 x9] 36)) := (Below.refl _ _).alloc (Nat.le_refl _) _
    clear cK10 cK11 cK12
    replace HB := Lib.hid (HB.out.trans (hb.mono HB.out.size))
    replace K1 := Lib.hid (K1.out.later hb)
    replace P1 := Lib.hid (P1.out.later hb)
    replace S1 := Lib.hid (S1.out.later hb)
    replace X1 := Lib.hid (X1.out.later hb)
    have BX1 := Lib.hid (Blk.new w4 #[Value.slice x1 x2 x3, Value.slice x4 x5 x6, Value.slice x7 x8 x9] 36)
    clear hb
    have cK10 : (w4.alloc (Obj.cells #[Value.slice x1 x2 x3, Value.slice x4 x5 x6, Value.slice x7 x8 x9] 36)).cell? ⟨w.heap.size, 0, none⟩ = some (Value.slice a1 a2 a3) := K1.out.cell 0
    have cK11 : (w4.alloc (Obj.cells #[Value.slice x1 x2 x3, Value.slice x4 x5 x6, Value.slice x7 x8 x9] 36)).cell? ⟨w.heap.size, 1, none⟩ = some (Value.slice l1 l2 l3) := K1.out.cell 1
    have cK12 : (w4.alloc (Obj.cells #[Value.slice x1 x2 x3, Value.slice x4 x5 x6, Value.slice x7 x8 x9] 36)).cell? ⟨w.heap.size, 2, none⟩ = some (Value.slice d1 d2 d3) := K1.out.cell 2
    have cBX10 : (w4.alloc (Obj.cells #[Value.slice x1 x2 x3, Value.slice x4 x5 x6, Value.slice x7 x8 x9] 36)).cell? ⟨w4.heap.size, 0, none⟩ = some (Value.slice x1 x2 x3) := BX1.out.cell 0
    have cBX11 : (w4.alloc (Obj.cells #[Value.slice x1 x2 x3, Value.slice x4 x5 x6, Value.slice x7 x8 x9] 36)).cell? ⟨w4.heap.size, 1, none⟩ = some (Value.slice x4 x5 x6) := BX1.out.cell 1
    have cBX12 : (w4.alloc (Obj.cells #[Value.slice x1 x2 x3, Value.slice x4 x5 x6, Value.slice x7 x8 x9] 36)).cell? ⟨w4.heap.size, 2, none⟩ = some (Value.slice x7 x8 x9) := BX1.out.cell 2
    go_wp2_with fail
    generalize (w4.alloc (Obj.cells #[Value.slice x1 x2 x3, Value.slice x4 x5 x6, Value.slice x7 x8 x9] 36)) = w5 at *
    go_wp2_with fail
    refine (areaR_as (impl_LiftArea _ _ A L D X1.out) HG.out).mono ?_
    rintro e w6 ⟨rfl, hb⟩
    clear cK10 cK11 cK12 cBX10 cBX11 cBX12
    replace HB := Lib.hid (HB.out.trans (hb.mono HB.out.size))
    replace K1 := Lib.hid (K1.out.later hb)
    replace P1 := Lib.hid (P1.out.later hb)
    replace S1 := Lib.hid (S1.out.later hb)
    replace X1 := Lib.hid (X1.out.later hb)
    replace BX1 := Lib.hid (BX1.out.later hb)
    clear hb
    have cK10 : w6.cell? ⟨w.heap.size, 0, none⟩ = some (Value.slice a1 a2 a3) := K1.out.cell 0
    have cK11 : w6.cell? ⟨w.heap.size, 1, none⟩ = some (Value.slice l1 l2 l3) := K1.out.cell 1
    have cK12 : w6.cell? ⟨w.heap.size, 2, none⟩ = some (Value.slice d1 d2 d3) := K1.out.cell 2
    have cBX10 : w6.cell? ⟨w4.heap.size, 0, none⟩ = some (Value.slice x1 x2 x3) := BX1.out.cell 0
    have cBX11 : w6.cell? ⟨w4.heap.size, 1, none⟩ = some (Value.slice x4 x5 x6) := BX1.out.cell 1
    have cBX12 : w6.cell? ⟨w4.heap.size, 2, none⟩ = some (Value.slice x7 x8 x9) := BX1.out.cell 2
    go_wp2_with fail
    refine ((sameFloat_w gz gz rfl _ _ _).mono fun _ _ h => h.toB).mono ?_
    rintro e w7 ⟨rfl, hb⟩
    replace hb := (below_dn (Below.refl _ w6) _).trans hb
    clear cK10 cK11 cK12 cBX10 cBX11 cBX12
    replace HB := Lib.hid (HB.out.trans (hb.mono HB.out.size))
    replace K1 := Lib.hid (K1.out.later hb)
    replace P1 := Lib.hid (P1.out.later hb)
    replace S1 := Lib.hid (S1.out.later hb)
    replace X1 := Lib.hid (X1.out.later hb)
    replace BX1 := Lib.hid (BX1.out.later hb)
    clear hb
    have cK10 : w7.cell? ⟨w.heap.size, 0, none⟩ = some (Value.slice a1 a2 a3) := K1.out.cell 0
    have cK11 : w7.cell? ⟨w.heap.size, 1, none⟩ = some (Value.slice l1 l2 l3) := K1.out.cell 1
    have cK12 : w7.cell? ⟨w.heap.size, 2, none⟩ = some (Value.slice d1 d2 d3) := K1.out.cell 2
    have cBX10 : w7.cell? ⟨w4.heap.size, 0, none⟩ = some (Value.slice x1 x2 x3) := BX1.out.cell 0
    have cBX11 : w7.cell? ⟨w4.heap.size, 1, none⟩ = some (Value.slice x4 x5 x6) := BX1.out.cell 1
    have cBX12 : w7.cell? ⟨w4.heap.size, 2, none⟩ = some (Value.slice x7 x8 x9) := BX1.out.cell 2
    go_wp2_with fail
    have hb : Below w7.heap.size w7 w7.drew := below_dn (Below.refl _ _) 1
    clear cK10 cK11 cK12 cBX10 cBX11 cBX12
    replace HB := Lib.hid (HB.out.trans (hb.mono HB.out.size))
    replace K1 := Lib.hid (K1.out.later hb)
    replace P1 := Lib.hid (P1.out.later hb)
    replace S1 := Lib.hid (S1.out.later hb)
    replace X1 := Lib.hid (X1.out.later hb)
    replace BX1 := Lib.hid (BX1.out.later hb)
    clear hb
    have cK10 : w7.drew.cell? ⟨w.heap.size, 0, none⟩ = some (Value.slice a1 a2 a3) := K1.out.cell 0
    have cK11 : w7.drew.cell? ⟨w.heap.size, 1, none⟩ = some (Value.slice l1 l2 l3) := K1.out.cell 1
    have cK12 : w7.drew.cell? ⟨w.heap.size, 2, none⟩ = some (Value.slice d1 d2 d3) := K1.out.cell 2
    have cBX10 : w7.drew.cell? ⟨w4.heap.size, 0, none⟩ = some (Value.slice x1 x2 x3) := BX1.out.cell 0
    have cBX11 : w7.drew.cell? ⟨w4.heap.size, 1, none⟩ = some (Value.slice x4 x5 x6) := BX1.out.cell 1
    have cBX12 : w7.drew.cell? ⟨w4.heap.size, 2, none⟩ = some (Value.slice x7 x8 x9) := BX1.out.cell 2
    have T0 : True := trivial
    have T1 : True := trivial
    go_region_held3 (fun w' => w'.cell? ⟨w4.heap.size, 0, none⟩ = some (Value.slice x1 x2 x3) ∧ w'.cell? ⟨w4.heap.size, 1, none⟩ = some (Value.slice x4 x5 x6) ∧ w'.cell? ⟨w4.heap.size, 2, none⟩ = some (Value.slice x7 x8 x9) ∧ w'.cell? ⟨w.heap.size, 0, none⟩ = some (Value.slice a1 a2 a3) ∧ w'.cell? ⟨w.heap.size, 1, none⟩ = some (Value.slice l1 l2 l3) ∧ w'.cell? ⟨w.heap.size, 2, none⟩ = some (Value.slice d1 d2 d3)) (exact ⟨cBX10, cBX11, cBX12, cK10, cK11, cK12⟩) (first
      | (clear T0; go_at_call 26; refine (toProfile_any _ _ A L D P1.out HA.out HL.out HD.out).mono ?_; rintro e w8 ⟨vY1, rfl, ho, hb⟩; clear cK10 cK11 cK12 cBX10 cBX11 cBX12; replace HB := Lib.hid (HB.out.trans (hb.mono HB.out.size)); replace K1 := Lib.hid (K1.out.later hb); replace P1 := Lib.hid (P1.out.later hb); replace S1 := Lib.hid (S1.out.later hb); replace X1 := Lib.hid (X1.out.later hb); replace BX1 := Lib.hid (BX1.out.later hb); have Y1 := Lib.hid (ho.PS); clear ho; clear hb; have cK10 : w8.cell? ⟨w.heap.size, 0, none⟩ = some (Value.slice a1 a2 a3) := K1.out.cell 0; have cK11 : w8.cell? ⟨w.heap.size, 1, none⟩ = some (Value.slice l1 l2 l3) := K1.out.cell 1; have cK12 : w8.cell? ⟨w.heap.size, 2, none⟩ = some (Value.slice d1 d2 d3) := K1.out.cell 2; have cBX10 : w8.cell? ⟨w4.heap.size, 0, none⟩ = some (Value.slice x1 x2 x3) := BX1.out.cell 0; have cBX11 : w8.cell? ⟨w4.heap.size, 1, none⟩ = some (Value.slice x4 x5 x6) := BX1.out.cell 1; have cBX12 : w8.cell? ⟨w4.heap.size, 2, none⟩ = some (Value.slice x7 x8 x9) := BX1.out.cell 2)
      | (clear T1; go_at_call 28; refine (eqProfile_true _ _ _ A L D A L D X1.out Y1.out (.refl _) (.refl _) (.refl _)).mono ?_; rintro e w9 ⟨rfl, hb⟩; clear cK10 cK11 cK12 cBX10 cBX11 cBX12; replace HB := Lib.hid (HB.out.trans (hb.mono HB.out.size)); replace K1 := Lib.hid (K1.out.later hb); replace P1 := Lib.hid (P1.out.later hb); replace S1 := Lib.hid (S1.out.later hb); replace X1 := Lib.hid (X1.out.later hb); replace BX1 := Lib.hid (BX1.out.later hb); replace Y1 := Lib.hid (Y1.out.later hb); clear hb; have cK10 : w9.cell? ⟨w.heap.size, 0, none⟩ = some (Value.slice a1 a2 a3) := K1.out.cell 0; have cK11 : w9.cell? ⟨w.heap.size, 1, none⟩ = some (Value.slice l1 l2 l3) := K1.out.cell 1; have cK12 : w9.cell? ⟨w.heap.size, 2, none⟩ = some (Value.slice d1 d2 d3) := K1.out.cell 2; have cBX10 : w9.cell? ⟨w4.heap.size, 0, none⟩ = some (Value.slice x1 x2 x3) := BX1.out.cell 0; have cBX11 : w9.cell? ⟨w4.heap.size, 1, none⟩ = some (Value.slice x4 x5 x6) := BX1.out.cell 1; have cBX12 : w9.cell? ⟨w4.heap.size, 2, none⟩ = some (Value.slice x7 x8 x9) := BX1.out.cell 2))
    go_wp2
    go_ret
    exact .mk' rfl HB.out
  · have HS := Lib.hid hs0; clear hs0
    go_enter Try.func10, Try.ntmps10
    go_wp2_with fail
    obtain ⟨w0, hw0⟩ : ∃ w0, w0 = (w.alloc (Obj.cells #[Value.slice a1 a2 a3, Value.slice l1 l2 l3, Value.slice d1 d2 d3] 33)) := ⟨_, rfl⟩
    have HB : Hid (Below w.heap.size w w0) := Lib.hid (by rw [hw0]; exact ((Below.refl _ _).alloc (by simp) _))
    have K1 : Hid (Blk w0 (w.heap.size) #[Value.slice a1 a2 a3, Value.slice l1 l2 l3, Value.slice d1 d2 d3] 33) := Lib.hid (by rw [hw0]; have := (Blk.new w #[Value.slice a1 a2 a3, Value.slice l1 l2 l3, Value.slice d1 d2 d3] 33); simpa using this)
    replace P1 := Lib.hid (P1.out.later HB.out)
    rw [← hw0]
    clear hw0
    have cK10 : w0.cell? ⟨w.heap.size, 0, none⟩ = some (Value.slice a1 a2 a3) := K1.out.cell 0
    have cK11 : w0.cell? ⟨w.heap.size, 1, none⟩ = some (Value.slice l1 l2 l3) := K1.out.cell 1
    have cK12 : w0.cell? ⟨w.heap.size, 2, none⟩ = some (Value.slice d1 d2 d3) := K1.out.cell 2
    refine (szProfile_over _ _ A L D 1048576 P1.out (by omega) (by omega) (by have := HS.out; omega)).mono ?_
    rintro e w1 ⟨rfl, hb⟩
    clear cK10 cK11 cK12
    replace HB := Lib.hid (HB.out.trans (hb.mono HB.out.size))
    replace K1 := Lib.hid (K1.out.later hb)
    replace P1 := Lib.hid (P1.out.later hb)
    clear hb
    have cK10 : w1.cell? ⟨w.heap.size, 0, none⟩ = some (Value.slice a1 a2 a3) := K1.out.cell 0
    have cK11 : w1.cell? ⟨w.heap.size, 1, none⟩ = some (Value.slice l1 l2 l3) := K1.out.cell 1
    have cK12 : w1.cell? ⟨w.heap.size, 2, none⟩ = some (Value.slice d1 d2 d3) := K1.out.cell 2
    go_wp2
    go_ret
    exact .mk' rfl HB.out

end Go.Proofs.Ytdkgdinbglkjcaa
