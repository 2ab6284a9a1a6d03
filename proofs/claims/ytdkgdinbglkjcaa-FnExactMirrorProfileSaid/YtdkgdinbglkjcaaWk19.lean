/- Structs of three lists that the call makes itself: knots are put behind the others. -/
import Derived.Test.YtdkgdinbglkjcaaWkH
import Derived.Test.YtdkgdinbglkjcaaWk11
import Derived.Maps.AppendAt
namespace Go.Proofs.Ytdkgdinbglkjcaa
open Fl Go.RowKit

/-- Two values lie in blocks of their own. -/
def Ap (v v' : Value) : Prop := v.ownBlock = none ∨ v.ownBlock ≠ v'.ownBlock
theorem Ap.symm {v v' : Value} (h : Ap v v') : Ap v' v := ne_symm h

/-- A box that holds three lists of the call's own, in three blocks. -/
structure St (w : World) (b B : Nat) (a l d : Value) (A L D : List Nat) : Prop where
  blk : Blk w b #[a, l, d] 36
  bB : B ≤ b
  oa : w.ownsRow B 23 1 a A.length (A.map (Value.float .f32))
  ol : w.ownsRow B 23 1 l L.length (L.map (Value.float .f32))
  od : w.ownsRow B 23 1 d D.length (D.map (Value.float .f32))
  al : Ap a l
  ad : Ap a d
  ld : Ap l d

theorem own_ne_box {w : World} {b B n : Nat} {cs : Array Value} {v : Value} {xs : List Value} (h : w.ownsRow B 23 1 v n xs) (k : Blk w b cs 36) : v.ownBlock ≠ some b := by
  intro hc
  rcases h.2 with ⟨rfl, _⟩ | ⟨g, cap, cur, rfl, _, hg, _⟩
  · cases hc
  · simp [Value.ownBlock] at hc
    subst hc
    unfold Blk at k
    rw [hg] at k
    simp at k
theorem own_shape {w : World} {B n : Nat} {e : TypeId} {v : Value} {xs : List Value} (h : w.ownsRow B e 1 v n xs) : ∃ a l c, v = .slice a l c := by
  rcases h.2 with ⟨rfl, _⟩ | ⟨g, cap, cur, rfl, _⟩
  · exact ⟨_, _, _, rfl⟩
  · exact ⟨_, _, _, rfl⟩
theorem Blk.kept {w w' : World} {b : Nat} {cs : Array Value} {T : TypeId} {row : Option Nat} (h : Blk w b cs T) (hg : w.grownBy w' row) (hne : row ≠ some b) : Blk w' b cs T := by
  unfold Blk at *
  rw [hg.block b (by rcases Nat.lt_or_ge b w.heap.size with q | q; exact q; rw [Array.getElem?_eq_none q] at h; cases h) (fun e => hne e.symm)]
  exact h
theorem own_setBox {w : World} {b B n : Nat} {cs : Array Value} {v u : Value} {xs : List Value} (h : w.ownsRow B 23 1 v n xs) (k : Blk w b cs 36) (i : Nat) : (w.setCell ⟨b, i, none⟩ u).ownsRow B 23 1 v n xs :=
  h.kept (gb_set w b i u) (.inr (own_ne_box h k))
theorem St.later {w w' : World} {b B : Nat} {a l d : Value} {A L D : List Nat} (h : St w b B a l d A L D) (hb : Below w.heap.size w w') : St w' b B a l d A L D :=
  ⟨h.blk.later hb, h.bB, own_later h.oa hb, own_later h.ol hb, own_later h.od hb, h.al, h.ad, h.ld⟩
theorem ap_new {v v' u : Value} {w : World} {B n : Nat} {xs : List Value} (h : Ap v u) (hat : v'.ownBlock = v.ownBlock ∨ v'.ownBlock = some w.heap.size) (hu : w.ownsRow B 23 1 u n xs) : Ap v' u := by
  rcases hat with e | e
  · unfold Ap at *; rw [e]; exact h
  · right; rw [e]; intro hc; have := (hu.lt _ hc.symm).2; omega

/-- The list of the angles has grown, and is stored. -/
theorem St.putA {w w1 w' : World} {b B x : Nat} {a l d v' : Value} {A L D : List Nat} (h : St w b B a l d A L D) (hb : Below w.heap.size w w1) (ho : w'.ownsRow B 23 1 v' (A.length + 1) (A.map (Value.float .f32) ++ [.float .f32 x])) (hg : w1.grownBy w' a.ownBlock)
    (hat : v'.ownBlock = a.ownBlock ∨ v'.ownBlock = some w1.heap.size) : St (w'.setCell ⟨b, 0, none⟩ v') b B v' l d (A ++ [x]) L D := by
  have h1 := h.later hb
  have k' : Blk w' b #[a, l, d] 36 := h1.blk.kept hg (own_ne_box h1.oa h1.blk)
  have ol' := h1.ol.kept hg h1.al.symm
  have od' := h1.od.kept hg h1.ad.symm
  refine ⟨k'.set 0 v', h.bB, ?_, own_setBox ol' k' 0, own_setBox od' k' 0, ap_new h.al hat h1.ol, ap_new h.ad hat h1.od, h.ld⟩
  rw [List.length_append, List.map_append]
  exact own_setBox ho k' 0
theorem St.putL {w w1 w' : World} {b B x : Nat} {a l d v' : Value} {A L D : List Nat} (h : St w b B a l d A L D) (hb : Below w.heap.size w w1) (ho : w'.ownsRow B 23 1 v' (L.length + 1) (L.map (Value.float .f32) ++ [.float .f32 x])) (hg : w1.grownBy w' l.ownBlock)
    (hat : v'.ownBlock = l.ownBlock ∨ v'.ownBlock = some w1.heap.size) : St (w'.setCell ⟨b, 1, none⟩ v') b B a v' d A (L ++ [x]) D := by
  have h1 := h.later hb
  have k' : Blk w' b #[a, l, d] 36 := h1.blk.kept hg (own_ne_box h1.ol h1.blk)
  have oa' := h1.oa.kept hg h1.al
  have od' := h1.od.kept hg h1.ld.symm
  refine ⟨k'.set 1 v', h.bB, own_setBox oa' k' 1, ?_, own_setBox od' k' 1, (ap_new h.al.symm hat h1.oa).symm, h.ad, ap_new h.ld hat h1.od⟩
  rw [List.length_append, List.map_append]
  exact own_setBox ho k' 1
theorem St.putD {w w1 w' : World} {b B x : Nat} {a l d v' : Value} {A L D : List Nat} (h : St w b B a l d A L D) (hb : Below w.heap.size w w1) (ho : w'.ownsRow B 23 1 v' (D.length + 1) (D.map (Value.float .f32) ++ [.float .f32 x])) (hg : w1.grownBy w' d.ownBlock)
    (hat : v'.ownBlock = d.ownBlock ∨ v'.ownBlock = some w1.heap.size) : St (w'.setCell ⟨b, 2, none⟩ v') b B a l v' A L (D ++ [x]) := by
  have h1 := h.later hb
  have k' : Blk w' b #[a, l, d] 36 := h1.blk.kept hg (own_ne_box h1.od h1.blk)
  have oa' := h1.oa.kept hg h1.ad
  have ol' := h1.ol.kept hg h1.ld
  refine ⟨k'.set 2 v', h.bB, own_setBox oa' k' 2, own_setBox ol' k' 2, ?_, h.al, (ap_new h.ad.symm hat h1.oa).symm, (ap_new h.ld.symm hat h1.ol).symm⟩
  rw [List.length_append, List.map_append]
  exact own_setBox ho k' 2
theorem St.below {w0 w w1 w' : World} {b B i : Nat} {a l d v v' : Value} {A L D : List Nat} {n : Nat} {xs : List Value} (h : St w b B a l d A L D) (h0 : Below B w0 w) (hB : B ≤ w.heap.size) (hb : Below w.heap.size w w1) (hv : w.ownsRow B 23 1 v n xs) (hg : w1.grownBy w' v.ownBlock) :
    Below B w0 (w'.setCell ⟨b, i, none⟩ v') :=
  (Below.grown (h0.trans (hb.mono hB)) hg (Nat.le_trans hB hb.size) (fun k hk => (hv.lt k hk).1)).setCell (p := ⟨b, i, none⟩) h.bB v'

theorem spec_l02Put (w w0 : World) (b B : Nat) (a l d : Value) (A L D : List Nat) (x y z : Nat) (h : St w b B a l d A L D) (h0 : Below B w0 w) (hB : B ≤ w.heap.size) (hA : A.length ≤ 1000) (hL : L.length ≤ 1000) (hD : D.length ≤ 1000) :
    Calls Try.prog 79 #[.pointer (some ⟨b, 0, none⟩), .float .f32 x, .float .f32 y, .float .f32 z] w (fun e w' => e = .returned (.tuple #[]) ∧ ∃ a' l' d', St w' b B a' l' d' (A ++ [x]) (L ++ [y]) (D ++ [z]) ∧ Below B w0 w' ∧ B ≤ w'.heap.size) := by
  obtain ⟨i0, hi, hz0, hz1, hz2⟩ := info_parts infoF
  have H := Lib.hid h; have H0 := Lib.hid h0; have HB := Lib.hid hB
  have c0 : w.cell? ⟨b, 0, none⟩ = some a := h.blk.cell 0
  clear h h0 hB
  go_enter Try.func79, Try.ntmps79
  go_wp2_with (at_builtin; refine wpList_append_own_at _ rfl _ _ 22 rfl B 23 i0 (.float .f32 0) 1 4 Try.underlying22 hi hz0 hz1 hz2 rfl (by decide) _ _ _ rfl (H.out.oa.alloc _) _ 1 1 [.float .f32 x] rfl rfl (by have := cell_one_new w (.float .f32 x) 23; simpa using this) (fun u hu => by simp at hu; subst hu; rfl) (by unfold maxLen; omega) (by omega) (by have := HB.out; simp at this ⊢; omega) ?_)
  intro v0 w0 ho hg _ hat
  obtain ⟨p0, q0, r0, rfl⟩ := own_shape ho
  have hb1 : Below w.heap.size w (w.alloc (.cells #[.float .f32 x] 23)) := (Below.refl _ _).alloc (Nat.le_refl _) _
  have KB : Blk w0 b #[a, l, d] 36 := (H.out.later hb1).blk.kept hg (own_ne_box (H.out.later hb1).oa (H.out.later hb1).blk)
  clear c0
  have c0 : w0.cell? ⟨b, 0, none⟩ = some a := KB.cell 0
  have c1 : w0.cell? ⟨b, 1, none⟩ = some l := KB.cell 1
  have c2 : w0.cell? ⟨b, 2, none⟩ = some d := KB.cell 2
  have f0 : w0.frozen? ⟨b, 0, none⟩ = false := KB.free 0
  have S0 := Lib.hid (H.out.putA hb1 ho hg (by simpa using hat))
  have B0 := Lib.hid (H.out.below (i := 0) (v' := (.slice p0 q0 r0)) H0.out HB.out hb1 H.out.oa hg)
  have Z0 : Hid (B ≤ (w0.setCell ⟨b, 0, none⟩ (.slice p0 q0 r0)).heap.size) := Lib.hid (by have := HB.out; have := hg.size; have := hb1.size; simp [World.setCell] at *; omega)
  clear ho hg hat hb1 KB H0 HB H
  have HB := Z0; have H0 := B0; clear Z0 B0
  go_wp2_with (at_builtin; refine wpList_append_own_at _ rfl _ _ 22 rfl B 23 i0 (.float .f32 0) 1 4 Try.underlying22 hi hz0 hz1 hz2 rfl (by decide) _ _ _ rfl (S0.out.ol.alloc _) _ 1 1 [.float .f32 y] rfl rfl (by have := cell_one_new (w0.setCell ⟨b, 0, none⟩ (.slice p0 q0 r0)) (.float .f32 y) 23; simpa using this) (fun u hu => by simp at hu; subst hu; rfl) (by unfold maxLen; omega) (by omega) (by have := HB.out; simp at this ⊢; omega) ?_)
  intro v1 w1 ho hg _ hat
  obtain ⟨p1, q1, r1, rfl⟩ := own_shape ho
  have hb1 : Below (w0.setCell ⟨b, 0, none⟩ (.slice p0 q0 r0)).heap.size (w0.setCell ⟨b, 0, none⟩ (.slice p0 q0 r0)) ((w0.setCell ⟨b, 0, none⟩ (.slice p0 q0 r0)).alloc (.cells #[.float .f32 y] 23)) := (Below.refl _ _).alloc (Nat.le_refl _) _
  have KB : Blk w1 b #[.slice p0 q0 r0, l, d] 36 := (S0.out.later hb1).blk.kept hg (own_ne_box (S0.out.later hb1).ol (S0.out.later hb1).blk)
  clear c0 c1 c2 f0
  have c0 : w1.cell? ⟨b, 0, none⟩ = some (.slice p0 q0 r0) := KB.cell 0
  have c1 : w1.cell? ⟨b, 1, none⟩ = some l := KB.cell 1
  have c2 : w1.cell? ⟨b, 2, none⟩ = some d := KB.cell 2
  have f0 : w1.frozen? ⟨b, 1, none⟩ = false := KB.free 1
  have S1 := Lib.hid (S0.out.putL hb1 ho hg (by simpa using hat))
  have B1 := Lib.hid (S0.out.below (i := 1) (v' := (.slice p1 q1 r1)) H0.out HB.out hb1 S0.out.ol hg)
  have Z1 : Hid (B ≤ (w1.setCell ⟨b, 1, none⟩ (.slice p1 q1 r1)).heap.size) := Lib.hid (by have := HB.out; have := hg.size; have := hb1.size; simp [World.setCell] at *; omega)
  clear ho hg hat hb1 KB H0 HB S0
  have HB := Z1; have H0 := B1; clear Z1 B1
  go_wp2_with (at_builtin; refine wpList_append_own_at _ rfl _ _ 22 rfl B 23 i0 (.float .f32 0) 1 4 Try.underlying22 hi hz0 hz1 hz2 rfl (by decide) _ _ _ rfl (S1.out.od.alloc _) _ 1 1 [.float .f32 z] rfl rfl (by have := cell_one_new (w1.setCell ⟨b, 1, none⟩ (.slice p1 q1 r1)) (.float .f32 z) 23; simpa using this) (fun u hu => by simp at hu; subst hu; rfl) (by unfold maxLen; omega) (by omega) (by have := HB.out; simp at this ⊢; omega) ?_)
  intro v2 w2 ho hg _ hat
  obtain ⟨p2, q2, r2, rfl⟩ := own_shape ho
  have hb1 : Below (w1.setCell ⟨b, 1, none⟩ (.slice p1 q1 r1)).heap.size (w1.setCell ⟨b, 1, none⟩ (.slice p1 q1 r1)) ((w1.setCell ⟨b, 1, none⟩ (.slice p1 q1 r1)).alloc (.cells #[.float .f32 z] 23)) := (Below.refl _ _).alloc (Nat.le_refl _) _
  have KB : Blk w2 b #[.slice p0 q0 r0, .slice p1 q1 r1, d] 36 := (S1.out.later hb1).blk.kept hg (own_ne_box (S1.out.later hb1).od (S1.out.later hb1).blk)
  clear c0 c1 c2 f0
  have c0 : w2.cell? ⟨b, 0, none⟩ = some (.slice p0 q0 r0) := KB.cell 0
  have c1 : w2.cell? ⟨b, 1, none⟩ = some (.slice p1 q1 r1) := KB.cell 1
  have c2 : w2.cell? ⟨b, 2, none⟩ = some d := KB.cell 2
  have f0 : w2.frozen? ⟨b, 2, none⟩ = false := KB.free 2
  have S2 := Lib.hid (S1.out.putD hb1 ho hg (by simpa using hat))
  have B2 := Lib.hid (S1.out.below (i := 2) (v' := (.slice p2 q2 r2)) H0.out HB.out hb1 S1.out.od hg)
  have Z2 : Hid (B ≤ (w2.setCell ⟨b, 2, none⟩ (.slice p2 q2 r2)).heap.size) := Lib.hid (by have := HB.out; have := hg.size; have := hb1.size; simp [World.setCell] at *; omega)
  clear ho hg hat hb1 KB H0 HB S1
  have HB := Z2; have H0 := B2; clear Z2 B2
  go_wp2
  go_end0
  exact ⟨rfl, _, _, _, S2.out, H0.out, HB.out⟩

end Go.Proofs.Ytdkgdinbglkjcaa
