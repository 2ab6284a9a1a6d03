/- Structs of three lists, written over with marks, and the marks found again. -/
import Derived.Test.YtdkgdinbglkjcaaWk25
namespace Go.Proofs.Ytdkgdinbglkjcaa
open Fl Go.RowKit

/-- Three lists apart from three others. -/
structure Ap3 (a l d a' l' d' : Value) : Prop where
  aa : Ap a a'
  al : Ap a l'
  ad : Ap a d'
  la : Ap l a'
  ll : Ap l l'
  ld : Ap l d'
  da : Ap d a'
  dl : Ap d l'
  dd : Ap d d'
theorem Ap3.symm {a l d a' l' d' : Value} (h : Ap3 a l d a' l' d') : Ap3 a' l' d' a l d := ⟨h.aa.symm, h.la.symm, h.da.symm, h.al.symm, h.ll.symm, h.dl.symm, h.ad.symm, h.ld.symm, h.dd.symm⟩
theorem ap_rows {w w' : World} {B B' n n' : Nat} {v v' : Value} {xs xs' : List Value} (h : w.ownsRow B 23 1 v n xs) (h' : w'.ownsRow B' 23 1 v' n' xs') (hs : w.heap.size ≤ B') : Ap v v' :=
  ne_of (fun g hg => (h.lt g hg).2) (fun g hg => (h'.lt g hg).1) hs
theorem Own3.apart {w w' : World} {B B' : Nat} {a l d a' l' d' : Value} {A L D A' L' D' : List Nat} (h : Own3 w B a l d A L D) (h' : Own3 w' B' a' l' d' A' L' D') (hs : w.heap.size ≤ B') : Ap3 a l d a' l' d' :=
  ⟨ap_rows h.oa h'.oa hs, ap_rows h.oa h'.ol hs, ap_rows h.oa h'.od hs, ap_rows h.ol h'.oa hs, ap_rows h.ol h'.ol hs, ap_rows h.ol h'.od hs, ap_rows h.od h'.oa hs, ap_rows h.od h'.ol hs, ap_rows h.od h'.od hs⟩
theorem OwnP.own3 {w : World} {B : Nat} {v : Value} {A L D : List Nat} (h : OwnP w B v A L D) : ∃ a l d, v = .agg #[a, l, d] ∧ Own3 w B a l d A L D := by
  obtain ⟨a, l, d, E1, E2, rfl, h1, h2, ha, hl, hd⟩ := h
  refine ⟨a, l, d, rfl, ha.1, own_base hl.1 h1, own_base hd (Nat.le_trans h1 h2), ?_, ?_, ?_⟩
  · exact ne_of ha.2 (fun g hg => (World.ownsRow.lt hl.1 g hg).1) (Nat.le_refl _)
  · exact ne_of ha.2 (fun g hg => (World.ownsRow.lt hd g hg).1) h2
  · exact ne_of hl.2 (fun g hg => (World.ownsRow.lt hd g hg).1) (Nat.le_refl _)

/-- Memory was made, then the three lists alone were written. -/
def Marks3 (w w' : World) (a l d : Value) : Prop := ∃ w0 w1 w2, Below w.heap.size w w0 ∧ w0.grownBy w1 a.ownBlock ∧ w1.grownBy w2 l.ownBlock ∧ w2.grownBy w' d.ownBlock
theorem Own3.marks {w w' : World} {B : Nat} {a l d a' l' d' : Value} {A L D : List Nat} (h : Own3 w B a l d A L D) (m : Marks3 w w' a' l' d') (hp : Ap3 a l d a' l' d') : Own3 w' B a l d A L D := by
  obtain ⟨w0, w1, w2, h0, h1, h2, h3⟩ := m
  exact (((h.later h0).kept h1 hp.aa hp.la hp.da).kept h2 hp.al hp.ll hp.dl).kept h3 hp.ad hp.ld hp.dd
theorem own_ne_box' {w : World} {b B n : Nat} {cs : Array Value} {v : Value} {xs : List Value} {T : TypeId} (hT : T ≠ 23) (h : w.ownsRow B 23 1 v n xs) (k : Blk w b cs T) : v.ownBlock ≠ some b := by
  intro hc
  rcases h.2 with ⟨rfl, _⟩ | ⟨g, cap, cur, rfl, _, hg, _⟩
  · cases hc
  · simp [Value.ownBlock] at hc
    subst hc
    unfold Blk at k
    rw [hg] at k
    simp at k
    exact hT k.2.symm
theorem Blk.marks {w w' : World} {B b : Nat} {cs : Array Value} {T : TypeId} {a l d : Value} {A L D : List Nat} (k : Blk w b cs T) (hT : T ≠ 23) (m : Marks3 w w' a l d) (ho : Own3 w B a l d A L D) : Blk w' b cs T := by
  obtain ⟨w0, w1, w2, h0, h1, h2, h3⟩ := m
  exact (((k.later h0).kept h1 (own_ne_box' hT ho.oa k)).kept h2 (own_ne_box' hT ho.ol k)).kept h3 (own_ne_box' hT ho.od k)
theorem below_marks {w0 w w' : World} {B B' : Nat} {a l d : Value} {A L D : List Nat} (h : Below B w0 w) (hB : B ≤ w.heap.size) (m : Marks3 w w' a l d) (ho : Own3 w B' a l d A L D) (hB' : B ≤ B') : Below B w0 w' := by
  obtain ⟨x0, x1, x2, h0, h1, h2, h3⟩ := m
  have s0 := Nat.le_trans hB h0.size
  have s1 := Nat.le_trans s0 h1.size
  have s2 := Nat.le_trans s1 h2.size
  exact (((h.trans (h0.mono hB)).grown h1 s0 (fun k hk => Nat.le_trans hB' (ho.oa.lt k hk).1)).grown h2 s1 (fun k hk => Nat.le_trans hB' (ho.ol.lt k hk).1)).grown h3 s2 (fun k hk => Nat.le_trans hB' (ho.od.lt k hk).1)
theorem marks_size {w w' : World} {a l d : Value} (m : Marks3 w w' a l d) : w.heap.size ≤ w'.heap.size := by
  obtain ⟨x0, x1, x2, h0, h1, h2, h3⟩ := m
  exact Nat.le_trans (Nat.le_trans (Nat.le_trans h0.size h1.size) h2.size) h3.size

/-- n marks from k0 on. -/
def mkN (k0 : Int) (n : Nat) : List Nat := (List.range n).map fun i : Nat => floatOfInt .f32 (k0 + (i : Int))
theorem mkN_len (k0 : Int) (n : Nat) : (mkN k0 n).length = n := by simp [mkN]
theorem mkL_mkN (k0 : Int) (xs : List Value) : mkL (Mf k0) xs xs.length = (mkN k0 xs.length).map (Value.float .f32) := by
  apply List.ext_getElem?
  intro i
  rcases Nat.lt_or_ge i xs.length with q | q
  · rw [mkL_all _ _ q, List.getElem?_map]
    unfold mkN
    rw [List.getElem?_map, List.getElem?_range q]
    rfl
  · rw [List.getElem?_eq_none (by rw [mkL_len]; exact q), List.getElem?_eq_none (by rw [List.length_map, mkN_len]; exact q)]
theorem mkN_get (k0 : Int) (n : Nat) {i : Nat} (hi : i < n) : ((mkN k0 n).map (Value.float .f32))[i]? = some (Mf k0 i) := by
  unfold mkN
  rw [List.getElem?_map, List.getElem?_map, List.getElem?_range hi]
  rfl

theorem markProfile_own (w : World) (a l d : Value) (B : Nat) (A L D : List Nat) (k0 : Int) (h : Own3 w B a l d A L D) (hA : A.length ≤ 1048576) (hL : L.length ≤ 1048576) (hD : D.length ≤ 1048576) (h0 : 0 ≤ k0) (h1 : k0 ≤ 1000) :
    Calls Try.prog 49 #[.agg #[a, l, d], .int .i64 k0] w (fun e w' => e = .returned (.int .i64 (k0 + A.length + L.length + D.length)) ∧ Own3 w' B a l d (mkN k0 A.length) (mkN (k0 + A.length) L.length) (mkN (k0 + A.length + L.length) D.length) ∧ Marks3 w w' a l d) := by
  obtain ⟨a1, a2, a3, rfl⟩ := own_shape h.oa
  obtain ⟨l1, l2, l3, rfl⟩ := own_shape h.ol
  obtain ⟨d1, d2, d3, rfl⟩ := own_shape h.od
  obtain ⟨w0, hw0⟩ : ∃ w0, w0 = w.alloc (Obj.cells #[Value.slice a1 a2 a3, Value.slice l1 l2 l3, Value.slice d1 d2 d3] 36) := ⟨_, rfl⟩
  have hb : Below w.heap.size w w0 := by rw [hw0]; exact (Below.refl _ _).alloc (Nat.le_refl _) _
  have K : Hid (Blk w0 w.heap.size #[Value.slice a1 a2 a3, Value.slice l1 l2 l3, Value.slice d1 d2 d3] 36) := Lib.hid (by rw [hw0]; exact Blk.new _ _ _)
  have H := Lib.hid (h.later hb)
  have HB := Lib.hid hb
  clear h hb
  obtain ⟨⟨c0, c1, c2⟩, _⟩ := cells3 K.out
  go_enter Try.func49, Try.ntmps49
  go_wp2_with fail
  rw [← hw0]
  clear hw0
  refine (markFloat32S_own _ _ _ _ _ _ H.out.oa hA h0 (by omega)).mono ?_
  rintro e w1 ⟨rfl, ho, hg⟩
  have G1 := Lib.hid hg
  have ha := mkL_mkN k0 (A.map (Value.float .f32))
  rw [List.length_map] at ha
  rw [ha] at ho
  have KB : Blk w1 w.heap.size #[Value.slice a1 a2 a3, Value.slice l1 l2 l3, Value.slice d1 d2 d3] 36 := K.out.kept hg (own_ne_box H.out.oa K.out)
  have H1 : Hid (Own3 w1 B (Value.slice a1 a2 a3) (Value.slice l1 l2 l3) (Value.slice d1 d2 d3) (mkN k0 A.length) L D) := Lib.hid ⟨by rw [mkN_len]; exact ho, H.out.ol.kept hg H.out.al.symm, H.out.od.kept hg H.out.ad.symm, H.out.al, H.out.ad, H.out.ld⟩
  clear c0 c1 c2 K ho hg ha H
  have K := Lib.hid KB
  clear KB
  obtain ⟨⟨c0, c1, c2⟩, _⟩ := cells3 K.out
  go_wp2_with fail
  refine (markFloat32S_own _ _ _ _ _ _ H1.out.ol hL (by omega) (by omega)).mono ?_
  rintro e w2 ⟨rfl, ho, hg⟩
  have G2 := Lib.hid hg
  have ha := mkL_mkN (k0 + A.length) (L.map (Value.float .f32))
  rw [List.length_map] at ha
  rw [ha] at ho
  have KB : Blk w2 w.heap.size #[Value.slice a1 a2 a3, Value.slice l1 l2 l3, Value.slice d1 d2 d3] 36 := K.out.kept hg (own_ne_box H1.out.ol K.out)
  have H2 : Hid (Own3 w2 B (Value.slice a1 a2 a3) (Value.slice l1 l2 l3) (Value.slice d1 d2 d3) (mkN k0 A.length) (mkN (k0 + A.length) L.length) D) := Lib.hid ⟨H1.out.oa.kept hg H1.out.al, by rw [mkN_len]; exact ho, H1.out.od.kept hg H1.out.ld.symm, H1.out.al, H1.out.ad, H1.out.ld⟩
  clear c0 c1 c2 K ho hg ha H1
  have K := Lib.hid KB
  clear KB
  obtain ⟨⟨c0, c1, c2⟩, _⟩ := cells3 K.out
  go_wp2_with fail
  refine (markFloat32S_own _ _ _ _ _ _ H2.out.od hD (by omega) (by omega)).mono ?_
  rintro e w3 ⟨rfl, ho, hg⟩
  have G3 := Lib.hid hg
  have ha := mkL_mkN (k0 + A.length + L.length) (D.map (Value.float .f32))
  rw [List.length_map] at ha
  rw [ha] at ho
  have H3 : Hid (Own3 w3 B (Value.slice a1 a2 a3) (Value.slice l1 l2 l3) (Value.slice d1 d2 d3) (mkN k0 A.length) (mkN (k0 + A.length) L.length) (mkN (k0 + A.length + L.length) D.length)) := Lib.hid ⟨H2.out.oa.kept hg H2.out.ad, H2.out.ol.kept hg H2.out.ld, by rw [mkN_len]; exact ho, H2.out.al, H2.out.ad, H2.out.ld⟩
  clear c0 c1 c2 K ho hg ha H2
  go_wp2
  go_ret
  exact ⟨rfl, H3.out, _, _, _, HB.out, G1.out, G2.out, G3.out⟩

theorem heldProfile_own (w : World) (a l d : Value) (B : Nat) (n m q : Nat) (k0 : Int) (h : Own3 w B a l d (mkN k0 n) (mkN (k0 + n) m) (mkN (k0 + n + m) q)) (hA : n ≤ 1048576) (hL : m ≤ 1048576) (hD : q ≤ 1048576) (h0 : 0 ≤ k0) (h1 : k0 ≤ 1000) :
    Calls Try.prog 50 #[.agg #[a, l, d], .int .i64 k0] w (RetB (.int .i64 (k0 + n + m + q)) w) := by
  obtain ⟨a1, a2, a3, rfl⟩ := own_shape h.oa
  obtain ⟨l1, l2, l3, rfl⟩ := own_shape h.ol
  obtain ⟨d1, d2, d3, rfl⟩ := own_shape h.od
  obtain ⟨w0, hw0⟩ : ∃ w0, w0 = w.alloc (Obj.cells #[Value.slice a1 a2 a3, Value.slice l1 l2 l3, Value.slice d1 d2 d3] 36) := ⟨_, rfl⟩
  have hb : Below w.heap.size w w0 := by rw [hw0]; exact (Below.refl _ _).alloc (Nat.le_refl _) _
  have K : Hid (Blk w0 w.heap.size #[Value.slice a1 a2 a3, Value.slice l1 l2 l3, Value.slice d1 d2 d3] 36) := Lib.hid (by rw [hw0]; exact Blk.new _ _ _)
  have H := Lib.hid (h.later hb)
  have HB := Lib.hid hb
  clear h hb
  have e1 := H.out.oa; have e2 := H.out.ol; have e3 := H.out.od
  rw [mkN_len] at e1 e2 e3
  have E1 := Lib.hid e1; have E2 := Lib.hid e2; have E3 := Lib.hid e3
  clear e1 e2 e3 H
  obtain ⟨⟨c0, c1, c2⟩, _⟩ := cells3 K.out
  go_enter Try.func50, Try.ntmps50
  go_wp2_with fail
  rw [← hw0]
  clear hw0
  refine (heldFloat32S_own _ _ _ n _ _ E1.out (fun i hi => mkN_get _ _ hi) hA h0 (by omega)).mono ?_
  rintro e w1 ⟨rfl, n1, hw⟩
  have hb := below_drawn hw
  clear c0 c1 c2 hw
  replace K := Lib.hid (K.out.later hb)
  replace HB := Lib.hid (HB.out.trans (hb.mono HB.out.size))
  replace E2 := Lib.hid (own_later E2.out hb)
  replace E3 := Lib.hid (own_later E3.out hb)
  clear hb
  obtain ⟨⟨c0, c1, c2⟩, _⟩ := cells3 K.out
  go_wp2_with fail
  refine (heldFloat32S_own _ _ _ m _ _ E2.out (fun i hi => mkN_get _ _ hi) hL (by omega) (by omega)).mono ?_
  rintro e w2 ⟨rfl, n2, hw⟩
  have hb := below_drawn hw
  clear c0 c1 c2 hw
  replace K := Lib.hid (K.out.later hb)
  replace HB := Lib.hid (HB.out.trans (hb.mono HB.out.size))
  replace E3 := Lib.hid (own_later E3.out hb)
  clear hb
  obtain ⟨⟨c0, c1, c2⟩, _⟩ := cells3 K.out
  go_wp2_with fail
  refine (heldFloat32S_own _ _ _ q _ _ E3.out (fun i hi => mkN_get _ _ hi) hD (by omega) (by omega)).mono ?_
  rintro e w3 ⟨rfl, n3, hw⟩
  have hb := below_drawn hw
  clear c0 c1 c2 hw
  replace HB := Lib.hid (HB.out.trans (hb.mono HB.out.size))
  clear hb
  go_wp2
  go_ret
  exact .mk' rfl HB.out

end Go.Proofs.Ytdkgdinbglkjcaa
