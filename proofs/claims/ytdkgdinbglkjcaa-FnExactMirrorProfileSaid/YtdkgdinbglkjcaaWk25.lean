/- CutProfile: the program. -/
import Derived.Test.YtdkgdinbglkjcaaWk24
namespace Go.Proofs.Ytdkgdinbglkjcaa
open Fl Go.RowKit

/-- The struct's result box behind a call that hands back a struct and a bool. -/
theorem give_T {w w' : World} {A L D : List Nat} {ok : Bool} {a l d : Value} (hok : validB A L D = ok) (ho : Own3 w' w.heap.size a l d A L D) :
    ∃ a' l' d', giveV a l d A L D = .tuple #[.agg #[a', l', d'], .bool ok] ∧ Own3 w' w.heap.size a' l' d' (outL ok A) (outL ok L) (outL ok D) := by
  cases ok
  · exact ⟨_, _, _, giveV_no hok, Own3.nil _ _⟩
  · exact ⟨_, _, _, giveV_yes hok, ho⟩

set_option maxRecDepth 8000 in
set_option maxHeartbeats 1600000 in
theorem impl_CutProfile (w : World) (v : Value) (A L D : List Nat) (x y : Nat) (h : PS w v A L D) : Calls Try.prog 52 #[v, .float .f32 x, .float .f32 y] w (SelT true (fun k => inB (A.getD k 0) x y) A L D w) := by
  have P := Lib.hid h
  obtain ⟨a1, a2, a3, l1, l2, l3, d1, d2, d3, rfl, _⟩ := h.shape
  obtain ⟨k1, k2, hb, hz⟩ := box2 w #[Value.slice a1 a2 a3, Value.slice l1 l2 l3, Value.slice d1 d2 d3] #[Value.slice none 0 0, Value.slice none 0 0, Value.slice none 0 0] 36 36
  obtain ⟨wb, hwb⟩ : ∃ wb, wb = ((w.alloc (Obj.cells #[Value.slice a1 a2 a3, Value.slice l1 l2 l3, Value.slice d1 d2 d3] 36)).alloc (Obj.cells #[Value.slice none 0 0, Value.slice none 0 0, Value.slice none 0 0] 36)) := ⟨_, rfl⟩
  rw [← hwb] at k1 k2 hb hz
  replace P := Lib.hid (P.out.later hb)
  have K1 := Lib.hid k1; have K2 := Lib.hid k2; have HB := Lib.hid hb
  clear h k1 k2 hb hz
  obtain ⟨⟨k0, k1, k2⟩, _⟩ := cells3 K1.out
  have VP := Lib.hid (impl_ValidProfile (A := A) (L := L) (D := D))
  obtain ⟨ok, hok⟩ : ∃ ok, validB A L D = ok := ⟨_, rfl⟩
  rw [hok] at VP
  cases ok
  · have HR : Hid (∀ w', Below w.heap.size w w' → SelT true (fun k => inB (A.getD k 0) x y) A L D w (.returned (.tuple #[.agg #[.slice none 0 0, .slice none 0 0, .slice none 0 0], .bool false])) w') := Lib.hid fun w' hb => retT_no (by rw [hok]; rfl) hb
    clear hok
    go_enter Try.func52, Try.ntmps52
    go_wp2_with fail
    rw [← hwb]
    clear hwb
    refine (VP.out _ _ P.out).mono ?_
    rintro e w1 ⟨rfl, hb⟩
    clear k0 k1 k2
    replace K2 := Lib.hid (K2.out.later hb)
    replace HB := Lib.hid (HB.out.trans (hb.mono HB.out.size))
    clear hb P K1
    obtain ⟨⟨r0, r1, r2⟩, f0, f1, f2⟩ := cells3 K2.out
    go_wp2
    have KF := Lib.hid (set3_blk K2.out (Value.slice none 0 0) (Value.slice none 0 0) (Value.slice none 0 0))
    obtain ⟨⟨q0, q1, q2⟩, _⟩ := cells3 KF.out
    unfold set3 at q0 q1 q2
    refine bodyPost_ret (v := .tuple #[.agg #[Value.slice none 0 0, Value.slice none 0 0, Value.slice none 0 0], .bool false]) (by simp [results, Try.results52, go_sem, q0, q1, q2]) rfl ?_
    exact HR.out _ (set3_below HB.out (by omega) _ _ _)
  · have HV := Lib.hid hok
    have CC := Lib.hid (fun w' (h' : PS w' (.agg #[Value.slice a1 a2 a3, Value.slice l1 l2 l3, Value.slice d1 d2 d3]) A L D) => impl_cut w' _ A L D x y h' hok)
    have HE : Hid (∀ b, validB (sel (fun k => inB (A.getD k 0) x y) A A.length) (sel (fun k => inB (A.getD k 0) x y) L A.length) (sel (fun k => inB (A.getD k 0) x y) D A.length) = b → (validB A L D && true && validB (sel (fun k => inB (A.getD k 0) x y) A A.length) (sel (fun k => inB (A.getD k 0) x y) L A.length) (sel (fun k => inB (A.getD k 0) x y) D A.length)) = b) := Lib.hid fun b hb => by rw [hok, hb]; simp
    clear hok
    go_enter Try.func52, Try.ntmps52
    go_wp2_with fail
    rw [← hwb]
    clear hwb
    refine (VP.out _ _ P.out).mono ?_
    rintro e w1 ⟨rfl, hb⟩
    clear k0 k1 k2
    replace K1 := Lib.hid (K1.out.later hb)
    replace K2 := Lib.hid (K2.out.later hb)
    replace HB := Lib.hid (HB.out.trans (hb.mono HB.out.size))
    replace P := Lib.hid (P.out.later hb)
    clear hb
    obtain ⟨⟨k0, k1, k2⟩, _⟩ := cells3 K1.out
    go_wp2_with fail
    refine (CC.out _ P.out).mono ?_
    rintro e w2 ⟨va, vl, vd, rfl, ho, hb⟩
    clear k0 k1 k2
    replace K2 := Lib.hid (K2.out.later hb)
    have HS := HB.out.size
    replace HB := Lib.hid (HB.out.trans (hb.mono HB.out.size))
    have HO := Lib.hid (ho.base HS)
    clear hb ho P K1 HS
    obtain ⟨x1, y1, z1, rfl⟩ := own_shape HO.out.oa
    obtain ⟨x2, y2, z2, rfl⟩ := own_shape HO.out.ol
    obtain ⟨x3, y3, z3, rfl⟩ := own_shape HO.out.od
    obtain ⟨A', hA'⟩ : ∃ A', A' = sel (fun k => inB (A.getD k 0) x y) A A.length := ⟨_, rfl⟩
    obtain ⟨L', hL'⟩ : ∃ L', L' = sel (fun k => inB (A.getD k 0) x y) L A.length := ⟨_, rfl⟩
    obtain ⟨D', hD'⟩ : ∃ D', D' = sel (fun k => inB (A.getD k 0) x y) D A.length := ⟨_, rfl⟩
    rw [← hA', ← hL', ← hD'] at HO HE
    have HSe : Hid (∀ b e w', validB A' L' D' = b → RetT (outL b A') (outL b L') (outL b D') b w e w' → SelT true (fun k => inB (A.getD k 0) x y) A L D w e w') := Lib.hid fun b e w' hb hr => by
      unfold SelT
      rw [← hA', ← hL', ← hD', HE.out b hb]
      exact hr
    clear hA' hL' hD' HE CC
    go_wp2_with fail
    refine (impl_checkedProfile _ _ _ _ _ _ _ HO.out.PS).mono ?_
    rintro e w3 ⟨rfl, hb⟩
    replace K2 := Lib.hid (K2.out.later hb)
    replace HB := Lib.hid (HB.out.trans (hb.mono HB.out.size))
    replace HO := Lib.hid (HO.out.later hb)
    clear hb
    obtain ⟨⟨r0, r1, r2⟩, f0, f1, f2⟩ := cells3 K2.out
    obtain ⟨ok, hok⟩ : ∃ ok, validB A' L' D' = ok := ⟨_, rfl⟩
    obtain ⟨va, vl, vd, hgv, hgo⟩ := give_T (w := w) hok HO.out
    rw [hgv]
    obtain ⟨x4, y4, z4, rfl⟩ := own_shape hgo.oa
    obtain ⟨x5, y5, z5, rfl⟩ := own_shape hgo.ol
    obtain ⟨x6, y6, z6, rfl⟩ := own_shape hgo.od
    have HG := Lib.hid hgo; have HOK := Lib.hid hok
    clear hgv hgo hok HO
    have KF := Lib.hid (set3_blk K2.out (Value.slice x4 y4 z4) (Value.slice x5 y5 z5) (Value.slice x6 y6 z6))
    have HBW := Lib.hid (set3_below (b := w.heap.size + 1) HB.out (by omega) (Value.slice x4 y4 z4) (Value.slice x5 y5 z5) (Value.slice x6 y6 z6))
    have HOW := Lib.hid (set3_own HG.out K2.out (Value.slice x4 y4 z4) (Value.slice x5 y5 z5) (Value.slice x6 y6 z6))
    go_wp2
    obtain ⟨⟨q0, q1, q2⟩, _⟩ := cells3 KF.out
    unfold set3 at q0 q1 q2
    refine bodyPost_ret (v := .tuple #[.agg #[Value.slice x4 y4 z4, Value.slice x5 y5 z5, Value.slice x6 y6 z6], .bool ok]) (by simp [results, Try.results52, go_sem, q0, q1, q2]) rfl ?_
    exact HSe.out _ _ _ HOK.out ⟨_, _, _, rfl, HOW.out, HBW.out⟩

end Go.Proofs.Ytdkgdinbglkjcaa
