/- ScaleProfile: the program. -/
import Derived.Test.YtdkgdinbglkjcaaWk28
import Derived.Test.YtdkgdinbglkjcaaWk29
namespace Go.Proofs.Ytdkgdinbglkjcaa
open Fl Go.RowKit

/-- A list of which the first k numbers have become the products. -/
def Scd (xs X : List Nat) (s k : Nat) : Prop := xs.length = X.length ∧ ∀ i, i < X.length → (i < k → cls .f32 (xs.getD i 0) = pr (X.getD i 0) s) ∧ (k ≤ i → xs.getD i 0 = X.getD i 0)
theorem Scd.start (X : List Nat) (s : Nat) : Scd X X s 0 := ⟨rfl, fun _ _ => ⟨fun h => absurd h (Nat.not_lt_zero _), fun _ => rfl⟩⟩
theorem Scd.step {xs X : List Nat} {s k r : Nat} (h : Scd xs X s k) (hr : cls .f32 r = pr (X.getD k 0) s) : Scd (xs.set k r) X s (k + 1) := by
  have hl := h.1
  refine ⟨by rw [List.length_set]; exact hl, fun i hi => ?_⟩
  have e : (xs.set k r).getD i 0 = if k = i then r else xs.getD i 0 := by
    rw [getD_lt (by rw [List.length_set]; omega), List.getElem_set]
    by_cases q : k = i
    · rw [if_pos q, if_pos q]
    · rw [if_neg q, if_neg q, getD_lt (by omega)]
  rw [e]
  by_cases q : k = i
  · subst q
    rw [if_pos rfl]
    exact ⟨fun _ => hr, fun hc => absurd hc (by omega)⟩
  · rw [if_neg q]
    exact ⟨fun hc => (h.2 i hi).1 (by omega), fun hc => (h.2 i hi).2 (by omega)⟩
theorem Scd.done {xs X : List Nat} {s n : Nat} (h : Scd xs X s n) (hn : X.length = n) : CLs xs X s n := ⟨by rw [h.1, hn], fun i hi => (h.2 i (by omega)).1 hi⟩
theorem own_set {w : World} {B g n cap k r : Nat} {xs : List Nat} (h : w.ownsRow B 23 1 (.slice (some ⟨g, 0, none⟩) n cap) n (xs.map (Value.float .f32))) :
    (w.setCell ⟨g, k, none⟩ (.float .f32 r)).ownsRow B 23 1 (.slice (some ⟨g, 0, none⟩) n cap) n ((xs.set k r).map (Value.float .f32)) ∧ w.grownBy (w.setCell ⟨g, k, none⟩ (.float .f32 r)) (some g) := by
  have := h.stored k (.float .f32 r)
  rw [List.map_set]
  exact this
theorem own_form {w : World} {B n : Nat} {v : Value} {xs : List Value} (h : w.ownsRow B 23 1 v n xs) (hn : 0 < n) : ∃ g cap, v = .slice (some ⟨g, 0, none⟩) n cap ∧ cap ≤ maxLen := by
  rcases h.2 with ⟨_, h0⟩ | ⟨g, cap, cur, rfl, _, _, _, hcm, _⟩
  · omega
  · exact ⟨g, cap, rfl, hcm⟩
theorem own_cell {w : World} {B g n cap k : Nat} {xs : List Nat} (h : w.ownsRow B 23 1 (.slice (some ⟨g, 0, none⟩) n cap) n (xs.map (Value.float .f32))) (hk : k < xs.length) :
    w.cell? ⟨g, k, none⟩ = some (.float .f32 (xs.getD k 0)) ∧ w.frozen? ⟨g, k, none⟩ = false := by
  have hx := h.1
  rw [List.length_map, Nat.mul_one] at hx
  refine ⟨(h.cellAt k (by omega)).trans ?_, h.frozenAt k⟩
  rw [List.getElem?_map, List.getElem?_eq_getElem hk, getD_lt hk]
  rfl

set_option maxRecDepth 8000 in
set_option maxHeartbeats 1600000 in
theorem impl_ScaleProfile (w : World) (v : Value) (A L D : List Nat) (x y : Nat) (h : PS w v A L D) : Calls Try.prog 54 #[v, .float .f32 x, .float .f32 y] w (ScaleT A L D x y w) := by
  have P := Lib.hid h
  obtain ⟨a1, a2, a3, l1, l2, l3, d1, d2, d3, rfl, _⟩ := h.shape
  obtain ⟨k1, k2, hb, hz⟩ := box2 w #[Value.slice a1 a2 a3, Value.slice l1 l2 l3, Value.slice d1 d2 d3] #[Value.slice none 0 0, Value.slice none 0 0, Value.slice none 0 0] 36 36
  obtain ⟨wb, hwb⟩ : ∃ wb, wb = ((w.alloc (Obj.cells #[Value.slice a1 a2 a3, Value.slice l1 l2 l3, Value.slice d1 d2 d3] 36)).alloc (Obj.cells #[Value.slice none 0 0, Value.slice none 0 0, Value.slice none 0 0] 36)) := ⟨_, rfl⟩
  rw [← hwb] at k1 k2 hb hz
  replace P := Lib.hid (P.out.later hb)
  have K1 := Lib.hid k1; have K2 := Lib.hid k2; have HB := Lib.hid hb; have HZ := Lib.hid hz
  clear h k1 k2 hb hz
  obtain ⟨⟨k0, k1, k2⟩, _⟩ := cells3 K1.out
  have VP := Lib.hid (impl_ValidProfile (A := A) (L := L) (D := D))
  obtain ⟨ok, hok⟩ : ∃ ok, validB A L D = ok := ⟨_, rfl⟩
  rw [hok] at VP
  cases ok
  · have HR : Hid (∀ w', Below w.heap.size w w' → ScaleT A L D x y w (.returned (.tuple #[.agg #[.slice none 0 0, .slice none 0 0, .slice none 0 0], .bool false])) w') := Lib.hid fun w' hb => by
      have h0 : scaleOk A L D x y = false := (by unfold scaleOk; rw [hok]; rfl)
      exact retT_no h0 hb
    clear hok
    go_enter Try.func54, Try.ntmps54
    go_wp2_with fail
    rw [← hwb]
    clear hwb
    refine (VP.out _ _ P.out).mono ?_
    rintro e w1 ⟨rfl, hb⟩
    clear k0 k1 k2
    replace K2 := Lib.hid (K2.out.later hb)
    replace HB := Lib.hid (HB.out.trans (hb.mono HB.out.size))
    clear hb P K1
    obtain ⟨⟨r0, r1, r2⟩, f0, f1, f2⟩ := cells3 K2.out
    go_wp2
    have KF := Lib.hid (set3_blk K2.out (Value.slice none 0 0) (Value.slice none 0 0) (Value.slice none 0 0))
    obtain ⟨⟨q0, q1, q2⟩, _⟩ := cells3 KF.out
    unfold set3 at q0 q1 q2
    refine bodyPost_ret (v := .tuple #[.agg #[Value.slice none 0 0, Value.slice none 0 0, Value.slice none 0 0], .bool false]) (by simp [results, Try.results54, go_sem, q0, q1, q2]) rfl ?_
    exact HR.out _ (set3_below HB.out (by omega) _ _ _)
  · have HV := Lib.hid hok
    obtain ⟨s1, s2, s3, s4⟩ := sizes_spec (valid_sizes hok)
    have H1 := Lib.hid s1; have H2 := Lib.hid s2; have H3 := Lib.hid s3; have H4 := Lib.hid s4
    clear hok s1 s2 s3 s4
    go_enter Try.func54, Try.ntmps54
    go_wp2_with fail
    rw [← hwb]
    clear hwb
    refine (VP.out _ _ P.out).mono ?_
    rintro e w2 ⟨rfl, hb⟩
    clear k0 k1 k2
    replace K1 := Lib.hid (K1.out.later hb)
    replace K2 := Lib.hid (K2.out.later hb)
    replace HZ : Hid (w.heap.size + 2 ≤ w2.heap.size) := Lib.hid (by have := HZ.out; have := hb.size; omega)
    replace HB := Lib.hid (HB.out.trans (hb.mono HB.out.size))
    replace P := Lib.hid (P.out.later hb)
    clear hb
    obtain ⟨⟨k0, k1, k2⟩, _⟩ := cells3 K1.out
    go_wp2_with fail
    refine (impl_copyProfile _ _ _ _ A L D P.out (by have := H1.out; have := H2.out; omega) (by have := H1.out; have := H2.out; have := H3.out; omega) (by have := H1.out; have := H2.out; have := H4.out; omega)).mono ?_
    rintro e w3 ⟨va, vl, vd, rfl, ho, hb⟩
    clear k0 k1 k2
    obtain ⟨x1, y1, z1, rfl⟩ := own_shape ho.oa
    obtain ⟨g2, c2, rfl, m2⟩ := own_form ho.ol (by have := H1.out; have := H3.out; omega)
    obtain ⟨g3, c3, rfl, m3⟩ := own_form ho.od (by have := H1.out; have := H4.out; omega)
    obtain ⟨wo, hwo⟩ : ∃ wo, wo = w3.alloc (Obj.cells #[Value.slice x1 y1 z1, Value.slice (some ⟨g2, 0, none⟩) L.length c2, Value.slice (some ⟨g3, 0, none⟩) D.length c3] 36) := ⟨_, rfl⟩
    have hbo : Below w3.heap.size w3 wo := by rw [hwo]; exact (Below.refl _ _).alloc (Nat.le_refl _) _
    obtain ⟨B, hB⟩ : ∃ B, B = w2.heap.size := ⟨_, rfl⟩
    have hs3 := hb.size
    rw [← hB] at ho hb hs3
    have M0 : Hid (Mid wo w3.heap.size B w2 (Value.slice x1 y1 z1) (Value.slice (some ⟨g2, 0, none⟩) L.length c2) (Value.slice (some ⟨g3, 0, none⟩) D.length c3) (Value.slice x1 y1 z1) (Value.slice (some ⟨g2, 0, none⟩) L.length c2) (Value.slice (some ⟨g3, 0, none⟩) D.length c3) A L D) := Lib.hid ⟨ho.later hbo, by rw [hwo]; exact Blk.new _ _ _, hs3, hb.trans (hbo.mono hs3), Nat.le_trans hs3 hbo.size⟩
    have HBB : Hid (w.heap.size + 2 ≤ B ∧ Below w.heap.size w w2 ∧ Blk w2 (w.heap.size + 1) #[Value.slice none 0 0, Value.slice none 0 0, Value.slice none 0 0] 36) := Lib.hid ⟨by have := HZ.out; omega, HB.out, K2.out⟩
    clear P ho hb hbo hs3 K1 K2 HZ HB hB m2 m3
    obtain ⟨⟨o0, o1, o2⟩, _⟩ := cells3 M0.out.blk
    go_wp2_with fail
    rw [← hwo]
    clear hwo o0 o1 o2
    generalize w3.heap.size = ob at *
    go_loopw [19] (fun i wr => ∃ (k : Nat) (xs ys : List Nat), k ≤ A.length ∧ i = .int .i64 k ∧ Mid wr ob B w2 (Value.slice x1 y1 z1) (Value.slice (some ⟨g2, 0, none⟩) L.length c2) (Value.slice (some ⟨g3, 0, none⟩) D.length c3) (Value.slice x1 y1 z1) (Value.slice (some ⟨g2, 0, none⟩) L.length c2) (Value.slice (some ⟨g3, 0, none⟩) D.length c3) A xs ys ∧ Scd xs L x k ∧ Scd ys D y k) (fun i _ => A.length - (intOf i).toNat)
    case atStart => exact ⟨0, L, D, Nat.zero_le _, rfl, M0.out, Scd.start _ _, Scd.start _ _⟩
    case round =>
      obtain ⟨k, xs, ys, hk, rfl, hm, hxs, hys⟩ := hrel
      have HM := Lib.hid hm; have HXS := Lib.hid hxs; have HYS := Lib.hid hys
      clear hm hxs hys M0
      obtain ⟨⟨o0, o1, o2⟩, _⟩ := cells3 HM.out.blk
      have t1 : (L.length : Int) = A.length := by have := H3.out; omega
      by_cases hlt : k < A.length
      · have el := (HXS.out.2 k (by have := H3.out; omega)).2 (Nat.le_refl _)
        have ed := (HYS.out.2 k (by have := H4.out; omega)).2 (Nat.le_refl _)
        have hol := HM.out.own.ol
        rw [HXS.out.1] at hol
        have hod := HM.out.own.od
        rw [HYS.out.1] at hod
        obtain ⟨cl, fl⟩ := own_cell (k := k) hol (by rw [HXS.out.1]; have := H3.out; omega)
        rw [el] at cl
        obtain ⟨cd, fd'⟩ := own_cell (k := k) hod (by rw [HYS.out.1]; have := H4.out; omega)
        rw [ed] at cd
        have hne : g2 ≠ g3 := fun hc => by
          rcases HM.out.own.ld with q | q
          · cases q
          · exact q (by rw [hc]; rfl)
        have hn2 : g2 ≠ ob := fun hc => own_ne_box hol HM.out.blk (by rw [hc]; rfl)
        have hn3 : g3 ≠ ob := fun hc => own_ne_box hod HM.out.blk (by rw [hc]; rfl)
        have MS : Hid (∀ (n m r r' : Nat), Mid ((((wr.drewN n).setCell ⟨g2, k, none⟩ (.float .f32 r)).drewN m).setCell ⟨g3, k, none⟩ (.float .f32 r')) ob B w2 (Value.slice x1 y1 z1) (Value.slice (some ⟨g2, 0, none⟩) L.length c2) (Value.slice (some ⟨g3, 0, none⟩) D.length c3) (Value.slice x1 y1 z1) (Value.slice (some ⟨g2, 0, none⟩) L.length c2) (Value.slice (some ⟨g3, 0, none⟩) D.length c3) A (xs.set k r) (ys.set k r')) := Lib.hid fun n m r r' => by
          have m1 := HM.out.later (below_dn (Below.refl _ wr) n)
          have h1 := m1.own.ol
          rw [HXS.out.1] at h1
          have m2 := (m1.turnL (L' := xs.set k r) (l' := Value.slice (some ⟨g2, 0, none⟩) L.length c2) (by rw [List.length_set, HXS.out.1]; exact (own_set (r := r) (k := k) h1).1) rfl (own_set (r := r) (k := k) h1).2).later (below_dn (Below.refl _ _) m)
          have h2 := m2.own.od
          rw [HYS.out.1] at h2
          exact m2.turnD (D' := ys.set k r') (d' := Value.slice (some ⟨g3, 0, none⟩) D.length c3) (by rw [List.length_set, HYS.out.1]; exact (own_set (r := r') (k := k) h2).1) rfl (own_set (r := r') (k := k) h2).2
        have SX := Lib.hid (fun r (hr : cls .f32 r = pr (L.getD k 0) x) => HXS.out.step hr)
        have SY := Lib.hid (fun r (hr : cls .f32 r = pr (D.getD k 0) y) => HYS.out.step hr)
        have q4 : (A.length : Int) ≤ 24 := by have := H2.out; omega
        have q0 : (k : Int) < A.length := by omega
        have q1 : (k : Int) < L.length := by omega
        have q2 : (k : Int) < D.length := by have := H4.out; omega
        have q3 : (0 : Int) ≤ (k : Int) := by omega
        clear el ed hol hod
        generalize L.getD k 0 = zl at *
        generalize D.getD k 0 = zd at *
        go_wp2
        go_roundw
        case rel => exact ⟨k + 1, _, _, by omega, by go_num, MS.out _ _ _ _, SX.out _ (cls_fa _ _ _ _ _), SY.out _ (cls_fa _ _ _ _ _)⟩
        case measure => simp [intOf]; omega
      · have hkl : k = A.length := by omega
        subst hkl
        have HCX := Lib.hid (HXS.out.done H3.out); have HCY := Lib.hid (HYS.out.done H4.out)
        have K2 : Hid (Blk wr (w.heap.size + 1) #[Value.slice none 0 0, Value.slice none 0 0, Value.slice none 0 0] 36) := Lib.hid (HBB.out.2.2.keep HM.out.bel (by have := HBB.out.1; omega))
        have HB : Hid (Below w.heap.size w wr) := Lib.hid (HBB.out.2.1.trans (HM.out.bel.mono (by have := HBB.out.1; omega)))
        have HO := Lib.hid (HM.out.own.base (by have := HBB.out.1; omega : w.heap.size ≤ B))
        go_wp2_with fail
        refine (impl_checkedProfile _ _ _ _ _ _ _ HO.out.PS).mono ?_
        rintro e w7 ⟨rfl, hb⟩
        clear o0 o1 o2 HM
        replace K2 := Lib.hid (K2.out.later hb)
        replace HB := Lib.hid (HB.out.trans (hb.mono HB.out.size))
        replace HO := Lib.hid (HO.out.later hb)
        clear hb
        obtain ⟨⟨r0, r1, r2⟩, f0, f1, f2⟩ := cells3 K2.out
        obtain ⟨ok, hok⟩ : ∃ ok, validB A xs ys = ok := ⟨_, rfl⟩
        obtain ⟨va, vl, vd, hgv, hgo⟩ := give_T (w := w) hok HO.out
        rw [hgv]
        obtain ⟨x4, y4, z4, rfl⟩ := own_shape hgo.oa
        obtain ⟨x5, y5, z5, rfl⟩ := own_shape hgo.ol
        obtain ⟨x6, y6, z6, rfl⟩ := own_shape hgo.od
        have HG := Lib.hid hgo; have HOK := Lib.hid hok
        clear hgv hgo hok HO
        have KF := Lib.hid (set3_blk K2.out (Value.slice x4 y4 z4) (Value.slice x5 y5 z5) (Value.slice x6 y6 z6))
        have HBW := Lib.hid (set3_below (b := w.heap.size + 1) HB.out (by omega) (Value.slice x4 y4 z4) (Value.slice x5 y5 z5) (Value.slice x6 y6 z6))
        have HOW := Lib.hid (set3_own HG.out K2.out (Value.slice x4 y4 z4) (Value.slice x5 y5 z5) (Value.slice x6 y6 z6))
        go_wp2
        obtain ⟨⟨q0, q1, q2⟩, _⟩ := cells3 KF.out
        unfold set3 at q0 q1 q2
        refine bodyPost_ret (v := .tuple #[.agg #[Value.slice x4 y4 z4, Value.slice x5 y5 z5, Value.slice x6 y6 z6], .bool ok]) (by simp [results, Try.results54, go_sem, q0, q1, q2]) rfl ?_
        exact scaleT_of HV.out HCX.out HCY.out HOK.out ⟨_, _, _, rfl, HOW.out, HBW.out⟩

end Go.Proofs.Ytdkgdinbglkjcaa
