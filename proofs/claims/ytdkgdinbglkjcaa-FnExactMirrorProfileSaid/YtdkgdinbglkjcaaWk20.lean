/- Structs of three lists that a call hands back: they are the call's own. -/
import Derived.Test.YtdkgdinbglkjcaaWk19
namespace Go.Proofs.Ytdkgdinbglkjcaa
open Fl Go.RowKit

/-- Three lists of the call's own, in three blocks. -/
structure Own3 (w : World) (B : Nat) (a l d : Value) (A L D : List Nat) : Prop where
  oa : w.ownsRow B 23 1 a A.length (A.map (Value.float .f32))
  ol : w.ownsRow B 23 1 l L.length (L.map (Value.float .f32))
  od : w.ownsRow B 23 1 d D.length (D.map (Value.float .f32))
  al : Ap a l
  ad : Ap a d
  ld : Ap l d
theorem own_base {w : World} {B B' : Nat} {v : Value} {n : Nat} {xs : List Value} (h : w.ownsRow B 23 1 v n xs) (hB : B' ≤ B) : w.ownsRow B' 23 1 v n xs := by
  refine ⟨h.1, ?_⟩
  rcases h.2 with q | ⟨g, cap, cur, e, hb, r⟩
  · exact .inl q
  · exact .inr ⟨g, cap, cur, e, Nat.le_trans hB hb, r⟩
theorem Own3.later {w w' : World} {B : Nat} {a l d : Value} {A L D : List Nat} (h : Own3 w B a l d A L D) (hb : Below w.heap.size w w') : Own3 w' B a l d A L D :=
  ⟨own_later h.oa hb, own_later h.ol hb, own_later h.od hb, h.al, h.ad, h.ld⟩
theorem Own3.base {w : World} {B B' : Nat} {a l d : Value} {A L D : List Nat} (h : Own3 w B a l d A L D) (hB : B' ≤ B) : Own3 w B' a l d A L D :=
  ⟨own_base h.oa hB, own_base h.ol hB, own_base h.od hB, h.al, h.ad, h.ld⟩
theorem Own3.nil (w : World) (B : Nat) : Own3 w B (.slice none 0 0) (.slice none 0 0) (.slice none 0 0) [] [] [] :=
  ⟨World.ownsRow_nil _ _ _ _, World.ownsRow_nil _ _ _ _, World.ownsRow_nil _ _ _ _, .inl rfl, .inl rfl, .inl rfl⟩
theorem Own3.FS {w : World} {B : Nat} {a l d : Value} {A L D : List Nat} (h : Own3 w B a l d A L D) : FS w a A ∧ FS w l L ∧ FS w d D :=
  ⟨OwnF.FS (B := B) h.oa, OwnF.FS (B := B) h.ol, OwnF.FS (B := B) h.od⟩
theorem Own3.PS {w : World} {B : Nat} {a l d : Value} {A L D : List Nat} (h : Own3 w B a l d A L D) : PS w (.agg #[a, l, d]) A L D :=
  ⟨a, l, d, rfl, h.FS.1, h.FS.2.1, h.FS.2.2⟩
theorem Own3.setBox {w : World} {b B : Nat} {cs : Array Value} {a l d : Value} {A L D : List Nat} (h : Own3 w B a l d A L D) (k : Blk w b cs 36) (i : Nat) (u : Value) : Own3 (w.setCell ⟨b, i, none⟩ u) B a l d A L D :=
  ⟨own_setBox h.oa k i, own_setBox h.ol k i, own_setBox h.od k i, h.al, h.ad, h.ld⟩
theorem Own3.St {w : World} {b B : Nat} {a l d : Value} {A L D : List Nat} (h : Own3 w B a l d A L D) (hB : B ≤ b) (k : Blk w b #[a, l, d] 36) : St w b B a l d A L D :=
  ⟨k, hB, h.oa, h.ol, h.od, h.al, h.ad, h.ld⟩
theorem St.own3 {w : World} {b B : Nat} {a l d : Value} {A L D : List Nat} (h : St w b B a l d A L D) : Own3 w B a l d A L D := ⟨h.oa, h.ol, h.od, h.al, h.ad, h.ld⟩
theorem Own3.kept {w w' : World} {B : Nat} {a l d : Value} {A L D : List Nat} {row : Option Nat} (h : Own3 w B a l d A L D) (hg : w.grownBy w' row) (ha : a.ownBlock = none ∨ a.ownBlock ≠ row) (hl : l.ownBlock = none ∨ l.ownBlock ≠ row) (hd : d.ownBlock = none ∨ d.ownBlock ≠ row) :
    Own3 w' B a l d A L D := ⟨h.oa.kept hg ha, h.ol.kept hg hl, h.od.kept hg hd, h.al, h.ad, h.ld⟩

/-- A struct of three lists stored into a box. -/
def set3 (w : World) (b : Nat) (a l d : Value) : World := ((w.setCell ⟨b, 0, none⟩ a).setCell ⟨b, 1, none⟩ l).setCell ⟨b, 2, none⟩ d
theorem set3_blk {w : World} {b : Nat} {x y z : Value} {T : TypeId} (k : Blk w b #[x, y, z] T) (a l d : Value) : Blk (set3 w b a l d) b #[a, l, d] T := ((k.set 0 a).set 1 l).set 2 d
theorem set3_other {w : World} {b b' : Nat} {cs : Array Value} {T : TypeId} (k : Blk w b cs T) (hne : b ≠ b') (a l d : Value) : Blk (set3 w b' a l d) b cs T := ((k.other hne 0 a).other hne 1 l).other hne 2 d
theorem set3_own {w : World} {b B : Nat} {x y z a l d : Value} {A L D : List Nat} (h : Own3 w B a l d A L D) (k : Blk w b #[x, y, z] 36) (a' l' d' : Value) : Own3 (set3 w b a' l' d') B a l d A L D :=
  ((h.setBox k 0 a').setBox (k.set 0 a') 1 l').setBox ((k.set 0 a').set 1 l') 2 d'
theorem set3_below {w0 w : World} {b B : Nat} (h : Below B w0 w) (hb : B ≤ b) (a l d : Value) : Below B w0 (set3 w b a l d) :=
  ((h.setCell (p := ⟨b, 0, none⟩) hb a).setCell (p := ⟨b, 1, none⟩) hb l).setCell (p := ⟨b, 2, none⟩) hb d
theorem set3_size (w : World) (b : Nat) (a l d : Value) : (set3 w b a l d).heap.size = w.heap.size := by simp [set3, World.setCell]

/-- The call hands back three lists of its own, and a bool. -/
def RetT (A L D : List Nat) (ok : Bool) (w : World) (e : Ending) (w' : World) : Prop :=
  ∃ a l d, e = .returned (.tuple #[.agg #[a, l, d], .bool ok]) ∧ Own3 w' w.heap.size a l d A L D ∧ Below w.heap.size w w'

theorem made0 (w : World) (B : Nat) (hB : B ≤ w.heap.size) : (w.alloc (.cells #[] 23)).ownsRow B 23 1 (.slice (some ⟨w.heap.size, 0, none⟩) 0 0) 0 [] :=
  World.ownsRow_made _ _ 0 hB (by unfold maxLen; omega) rfl

theorem spec_l02New (w : World) : Calls Try.prog 78 #[] w (fun e w' => ∃ a l d, e = .returned (.agg #[a, l, d]) ∧ Own3 w' w.heap.size a l d [] [] [] ∧ Below w.heap.size w w') := by
  go_enter Try.func78, Try.ntmps78
  go_wp2
  obtain ⟨w0, hw0⟩ : ∃ w0, w0 = w.alloc (Obj.cells #[Value.slice (some ⟨w.heap.size + 1, 0, none⟩) 0 0, Value.slice (some ⟨w.heap.size + 1 + 1, 0, none⟩) 0 0, Value.slice (some ⟨w.heap.size + 1 + 1 + 1, 0, none⟩) 0 0] 36) := ⟨_, rfl⟩
  have hz : w0.heap.size = w.heap.size + 1 := by rw [hw0]; simp
  have KR : Blk (((w0.alloc (Obj.cells #[] 23)).alloc (Obj.cells #[] 23)).alloc (Obj.cells #[] 23)) w.heap.size #[Value.slice (some ⟨w.heap.size + 1, 0, none⟩) 0 0, Value.slice (some ⟨w.heap.size + 1 + 1, 0, none⟩) 0 0, Value.slice (some ⟨w.heap.size + 1 + 1 + 1, 0, none⟩) 0 0] 36 := by
    rw [hw0]; exact (((Blk.new w _ _).alloc _).alloc _).alloc _
  have HB : Below w.heap.size w w0 := by rw [hw0]; exact (Below.refl _ _).alloc (Nat.le_refl _) _
  rw [← hw0]
  clear hw0
  have c0 := KR.cell 0; have c1 := KR.cell 1; have c2 := KR.cell 2
  refine bodyPost_ret (v := .agg #[Value.slice (some ⟨w.heap.size + 1, 0, none⟩) 0 0, Value.slice (some ⟨w.heap.size + 1 + 1, 0, none⟩) 0 0, Value.slice (some ⟨w.heap.size + 1 + 1 + 1, 0, none⟩) 0 0]) (by simp [results, Try.results78, go_sem, c0, c1, c2]) rfl ⟨_, _, _, rfl, ⟨?_, ?_, ?_, ?_, ?_, ?_⟩, ?_⟩
  · have := ((made0 w0 w.heap.size (by omega)).alloc (Obj.cells #[] 23)).alloc (Obj.cells #[] 23); rw [hz] at this; simpa using this
  · have := (made0 (w0.alloc (Obj.cells #[] 23)) w.heap.size (by simp; omega)).alloc (Obj.cells #[] 23); simpa [hz] using this
  · have := made0 ((w0.alloc (Obj.cells #[] 23)).alloc (Obj.cells #[] 23)) w.heap.size (by simp; omega); simpa [hz] using this
  · right; simp [Value.ownBlock]
  · right; simp [Value.ownBlock]
  · right; simp [Value.ownBlock]
  · exact ((HB.alloc (by omega) _).alloc (by simp; omega) _).alloc (by simp; omega) _

/-- The struct if it is valid. -/
def giveV (a l d : Value) (A L D : List Nat) : Value := if validB A L D then .tuple #[.agg #[a, l, d], .bool true] else .tuple #[.agg #[.slice none 0 0, .slice none 0 0, .slice none 0 0], .bool false]
theorem giveV_yes {a l d : Value} {A L D : List Nat} (h : validB A L D = true) : giveV a l d A L D = .tuple #[.agg #[a, l, d], .bool true] := by unfold giveV; rw [h]; rfl
theorem giveV_no {a l d : Value} {A L D : List Nat} (h : validB A L D = false) : giveV a l d A L D = .tuple #[.agg #[.slice none 0 0, .slice none 0 0, .slice none 0 0], .bool false] := by unfold giveV; rw [h]; rfl

/-- The boxes of the parameter and of the result. -/
theorem box2 (w : World) (cs cs' : Array Value) (T T' : TypeId) : Blk ((w.alloc (Obj.cells cs T)).alloc (Obj.cells cs' T')) w.heap.size cs T ∧ Blk ((w.alloc (Obj.cells cs T)).alloc (Obj.cells cs' T')) (w.heap.size + 1) cs' T' ∧
    Below w.heap.size w ((w.alloc (Obj.cells cs T)).alloc (Obj.cells cs' T')) ∧ ((w.alloc (Obj.cells cs T)).alloc (Obj.cells cs' T')).heap.size = w.heap.size + 2 :=
  ⟨(Blk.new _ _ _).alloc _, by have := Blk.new (w.alloc (Obj.cells cs T)) cs' T'; simpa using this, ((Below.refl _ _).alloc (Nat.le_refl _) _).alloc (by simp) _, by simp⟩
theorem cells3 {w : World} {b : Nat} {x y z : Value} {T : TypeId} (k : Blk w b #[x, y, z] T) :
    (w.cell? ⟨b, 0, none⟩ = some x ∧ w.cell? ⟨b, 1, none⟩ = some y ∧ w.cell? ⟨b, 2, none⟩ = some z) ∧ w.frozen? ⟨b, 0, none⟩ = false ∧ w.frozen? ⟨b, 1, none⟩ = false ∧ w.frozen? ⟨b, 2, none⟩ = false :=
  ⟨⟨k.cell 0, k.cell 1, k.cell 2⟩, k.free 0, k.free 1, k.free 2⟩

theorem spec_l02Give (w : World) (a l d : Value) (A L D : List Nat) (h : PS w (.agg #[a, l, d]) A L D) : Calls Try.prog 82 #[.agg #[a, l, d]] w (RetB (giveV a l d A L D) w) := by
  obtain ⟨a1, a2, a3, l1, l2, l3, d1, d2, d3, he, fa, fl, fd⟩ := h.shape
  cases he
  obtain ⟨k1, k2, hb, hz⟩ := box2 w #[Value.slice a1 a2 a3, Value.slice l1 l2 l3, Value.slice d1 d2 d3] #[Value.slice none 0 0, Value.slice none 0 0, Value.slice none 0 0] 36 36
  have FA := Lib.hid (fa.later hb); have FL := Lib.hid (fl.later hb); have FD := Lib.hid (fd.later hb); have K1 := Lib.hid k1; have K2 := Lib.hid k2; have HB := Lib.hid hb
  clear fa fl fd h k1 k2 hb hz
  go_enter Try.func82, Try.ntmps82
  go_wp2_with fail
  refine (spec_l02Is _ _ _ _ _ A L D K1.out FA.out FL.out FD.out).mono ?_
  rintro e w1 ⟨rfl, n1, hw1⟩
  replace K1 : Hid (Blk w1 _ _ _) := Lib.hid (by rw [hw1]; exact K1.out)
  replace K2 : Hid (Blk w1 _ _ _) := Lib.hid (by rw [hw1]; exact K2.out)
  replace HB : Hid (Below w.heap.size w w1) := Lib.hid (by rw [hw1]; exact below_dn HB.out _)
  clear hw1 FA FL FD
  obtain ⟨⟨c0, c1, c2⟩, _⟩ := cells3 K1.out
  obtain ⟨⟨r0, r1, r2⟩, f0, f1, f2⟩ := cells3 K2.out
  cases hv : validB A L D
  · have HV := Lib.hid (giveV_no (a := Value.slice a1 a2 a3) (l := Value.slice l1 l2 l3) (d := Value.slice d1 d2 d3) hv)
    clear hv
    go_wp2
    have KF := Lib.hid (set3_blk K2.out (Value.slice none 0 0) (Value.slice none 0 0) (Value.slice none 0 0))
    obtain ⟨⟨r0, r1, r2⟩, _⟩ := cells3 KF.out
    unfold set3 at r0 r1 r2
    refine bodyPost_ret (v := .tuple #[.agg #[Value.slice none 0 0, Value.slice none 0 0, Value.slice none 0 0], .bool false]) (by simp [results, Try.results82, go_sem, r0, r1, r2]) rfl ?_
    exact .mk' HV.out.symm (set3_below HB.out (by omega) _ _ _)
  · have HV := Lib.hid (giveV_yes (a := Value.slice a1 a2 a3) (l := Value.slice l1 l2 l3) (d := Value.slice d1 d2 d3) hv)
    clear hv
    go_wp2
    have KF := Lib.hid (set3_blk K2.out (Value.slice a1 a2 a3) (Value.slice l1 l2 l3) (Value.slice d1 d2 d3))
    obtain ⟨⟨r0, r1, r2⟩, _⟩ := cells3 KF.out
    unfold set3 at r0 r1 r2
    refine bodyPost_ret (v := .tuple #[.agg #[Value.slice a1 a2 a3, Value.slice l1 l2 l3, Value.slice d1 d2 d3], .bool true]) (by simp [results, Try.results82, go_sem, r0, r1, r2]) rfl ?_
    exact .mk' HV.out.symm (set3_below HB.out (by omega) _ _ _)

theorem impl_checkedProfile (w : World) (a l d : Value) (A L D : List Nat) (h : PS w (.agg #[a, l, d]) A L D) : Calls Try.prog 83 #[.agg #[a, l, d]] w (RetB (giveV a l d A L D) w) := by
  have P := Lib.hid h
  obtain ⟨a1, a2, a3, l1, l2, l3, d1, d2, d3, he, fa, fl, fd⟩ := h.shape
  cases he
  obtain ⟨k1, k2, hb, hz⟩ := box2 w #[Value.slice a1 a2 a3, Value.slice l1 l2 l3, Value.slice d1 d2 d3] #[Value.slice none 0 0, Value.slice none 0 0, Value.slice none 0 0] 36 36
  have HZ : Hid (w.heap.size ≤ ((w.alloc (Obj.cells #[Value.slice a1 a2 a3, Value.slice l1 l2 l3, Value.slice d1 d2 d3] 36)).alloc (Obj.cells #[Value.slice none 0 0, Value.slice none 0 0, Value.slice none 0 0] 36)).heap.size) := Lib.hid (by omega)
  replace P := Lib.hid (P.out.later hb)
  have K1 := Lib.hid k1; have K2 := Lib.hid k2; have HB := Lib.hid hb
  clear fa fl fd h k1 k2 hb hz
  go_enter Try.func83, Try.ntmps83
  go_wp2_with fail
  refine (impl_ValidProfile _ _ A L D P.out).mono ?_
  rintro e w1 ⟨rfl, hw1⟩
  replace K1 := Lib.hid (K1.out.later hw1)
  replace K2 := Lib.hid (K2.out.later hw1)
  replace HB := Lib.hid (HB.out.trans (hw1.mono HZ.out))
  clear hw1 P HZ
  obtain ⟨⟨c0, c1, c2⟩, _⟩ := cells3 K1.out
  obtain ⟨⟨r0, r1, r2⟩, f0, f1, f2⟩ := cells3 K2.out
  cases hv : validB A L D
  · have HV := Lib.hid (giveV_no (a := Value.slice a1 a2 a3) (l := Value.slice l1 l2 l3) (d := Value.slice d1 d2 d3) hv)
    clear hv
    go_wp2
    have KF := Lib.hid (set3_blk K2.out (Value.slice none 0 0) (Value.slice none 0 0) (Value.slice none 0 0))
    obtain ⟨⟨r0, r1, r2⟩, _⟩ := cells3 KF.out
    unfold set3 at r0 r1 r2
    refine bodyPost_ret (v := .tuple #[.agg #[Value.slice none 0 0, Value.slice none 0 0, Value.slice none 0 0], .bool false]) (by simp [results, Try.results83, go_sem, r0, r1, r2]) rfl ?_
    exact .mk' HV.out.symm (set3_below HB.out (by omega) _ _ _)
  · have HV := Lib.hid (giveV_yes (a := Value.slice a1 a2 a3) (l := Value.slice l1 l2 l3) (d := Value.slice d1 d2 d3) hv)
    clear hv
    go_wp2
    have KF := Lib.hid (set3_blk K2.out (Value.slice a1 a2 a3) (Value.slice l1 l2 l3) (Value.slice d1 d2 d3))
    obtain ⟨⟨r0, r1, r2⟩, _⟩ := cells3 KF.out
    unfold set3 at r0 r1 r2
    refine bodyPost_ret (v := .tuple #[.agg #[Value.slice a1 a2 a3, Value.slice l1 l2 l3, Value.slice d1 d2 d3], .bool true]) (by simp [results, Try.results83, go_sem, r0, r1, r2]) rfl ?_
    exact .mk' HV.out.symm (set3_below HB.out (by omega) _ _ _)

end Go.Proofs.Ytdkgdinbglkjcaa
