/- Structs of three slices of numbers: boxes in memory, copies, sizes, and the comparison of two such structs. -/
import Derived.Test.YtdkgdinbglkjcaaWk6
import Derived.Test.YtdkgdinbglkjcaaSft
import Derived.Handy
namespace Go.Proofs.Ytdkgdinbglkjcaa
open Fl Go.RowKit

/-- A block of cells, none of which is frozen. -/
def Blk (w : World) (b : Nat) (cs : Array Value) (T : TypeId) : Prop := w.heap[b]? = some (.cells cs T (0, 0))
theorem Blk.lt {w : World} {b : Nat} {cs : Array Value} {T : TypeId} (h : Blk w b cs T) : b < w.heap.size := by
  rcases Nat.lt_or_ge b w.heap.size with q | q
  · exact q
  · unfold Blk at h; rw [Array.getElem?_eq_none q] at h; cases h
theorem Blk.cell {w : World} {b : Nat} {cs : Array Value} {T : TypeId} (h : Blk w b cs T) (i : Nat) : w.cell? ⟨b, i, none⟩ = cs[i]? := by
  unfold Blk at h; simp [World.cell?, h]
theorem Blk.free {w : World} {b : Nat} {cs : Array Value} {T : TypeId} (h : Blk w b cs T) (i : Nat) : w.frozen? ⟨b, i, none⟩ = false := by
  unfold Blk at h; simp [World.frozen?, h]
theorem Blk.keep {w w' : World} {b B : Nat} {cs : Array Value} {T : TypeId} (h : Blk w b cs T) (hb : Below B w w') (hB : b < B) : Blk w' b cs T := by
  unfold Blk at *; rw [hb.block b hB]; exact h
theorem Blk.later {w w' : World} {b : Nat} {cs : Array Value} {T : TypeId} (h : Blk w b cs T) (hb : Below w.heap.size w w') : Blk w' b cs T := h.keep hb h.lt
theorem Blk.set {w : World} {b : Nat} {cs : Array Value} {T : TypeId} (h : Blk w b cs T) (i : Nat) (v : Value) : Blk (w.setCell ⟨b, i, none⟩ v) b (cs.setIfInBounds i v) T :=
  heap_setCell_same w b i cs T v h
theorem Blk.other {w : World} {b b' : Nat} {cs : Array Value} {T : TypeId} (h : Blk w b cs T) (hne : b ≠ b') (i : Nat) (v : Value) : Blk (w.setCell ⟨b', i, none⟩ v) b cs T := by
  unfold Blk at *; rw [Below.heap_setCell _ _ _ _ hne]; exact h
theorem Blk.alloc {w : World} {b : Nat} {cs : Array Value} {T : TypeId} (h : Blk w b cs T) (o : Obj) : Blk (w.alloc o) b cs T := by
  have := h.lt
  unfold Blk at *; rw [Below.heap_alloc _ _ _ this]; exact h
theorem Blk.new (w : World) (cs : Array Value) (T : TypeId) : Blk (w.alloc (.cells cs T)) w.heap.size cs T := heap_alloc_new w _

/-- A struct of three slices of numbers. -/
def PS (w : World) (v : Value) (A L D : List Nat) : Prop := ∃ a l d, v = .agg #[a, l, d] ∧ FS w a A ∧ FS w l L ∧ FS w d D
theorem PS.later {w w' : World} {v : Value} {A L D : List Nat} (h : PS w v A L D) (hb : Below w.heap.size w w') : PS w' v A L D := by
  obtain ⟨a, l, d, rfl, h1, h2, h3⟩ := h
  exact ⟨a, l, d, rfl, h1.later hb, h2.later hb, h3.later hb⟩
theorem PS.shape {w : World} {v : Value} {A L D : List Nat} (h : PS w v A L D) :
    ∃ a1 a2 a3 l1 l2 l3 d1 d2 d3, v = .agg #[.slice a1 a2 a3, .slice l1 l2 l3, .slice d1 d2 d3] ∧ FS w (.slice a1 a2 a3) A ∧ FS w (.slice l1 l2 l3) L ∧ FS w (.slice d1 d2 d3) D := by
  obtain ⟨a, l, d, rfl, h1, h2, h3⟩ := h
  obtain ⟨a1, a2, a3, rfl⟩ := h1.shape
  obtain ⟨l1, l2, l3, rfl⟩ := h2.shape
  obtain ⟨d1, d2, d3, rfl⟩ := h3.shape
  exact ⟨a1, a2, a3, l1, l2, l3, d1, d2, d3, rfl, h1, h2, h3⟩

/-- Owned, in a block from B on and below E. -/
def OwnR (w : World) (B E : Nat) (v : Value) (zs : List Nat) : Prop := OwnF w B v zs ∧ ∀ g, v.ownBlock = some g → g < E
theorem OwnF.lt {w : World} {B : Nat} {v : Value} {zs : List Nat} (h : OwnF w B v zs) (g : Nat) (hg : v.ownBlock = some g) : g < w.heap.size := by
  rcases h.2 with ⟨rfl, _⟩ | ⟨g', cap, cur, rfl, hB, hh, r⟩
  · simp [Value.ownBlock] at hg
  · simp [Value.ownBlock] at hg
    subst hg
    rcases Nat.lt_or_ge g' w.heap.size with q | q
    · exact q
    · rw [Array.getElem?_eq_none q] at hh; cases hh
theorem OwnF.shape {w : World} {B : Nat} {v : Value} {zs : List Nat} (h : OwnF w B v zs) : ∃ a l c, v = .slice a l c := by
  rcases h.2 with ⟨rfl, _⟩ | ⟨g', cap, cur, rfl, _⟩
  · exact ⟨_, _, _, rfl⟩
  · exact ⟨_, _, _, rfl⟩
theorem OwnR.later {w w' : World} {B E : Nat} {v : Value} {zs : List Nat} (h : OwnR w B E v zs) (hb : Below w.heap.size w w') : OwnR w' B E v zs := ⟨h.1.later hb, h.2⟩
theorem OwnF.base {w : World} {B B' : Nat} {v : Value} {zs : List Nat} (h : OwnF w B v zs) (hB : B' ≤ B) : OwnF w B' v zs := by
  refine ⟨h.1, ?_⟩
  rcases h.2 with q | ⟨g, cap, cur, e, hg, r⟩
  · exact .inl q
  · exact .inr ⟨g, cap, cur, e, by omega, r⟩
/-- A store into another block, or none of these. -/
theorem OwnF.setOther {w : World} {B : Nat} {v : Value} {zs : List Nat} (h : OwnF w B v zs) {p : Addr} (hp : p.block < B) (u : Value) : OwnF (w.setCell p u) B v zs := ownsRow_setCell_below h hp u

/-- The call's own struct of three slices, each in memory of its own: first those of A, then those of L, then those of D. -/
def OwnP (w : World) (B : Nat) (v : Value) (A L D : List Nat) : Prop := ∃ a l d E1 E2, v = .agg #[a, l, d] ∧ B ≤ E1 ∧ E1 ≤ E2 ∧ OwnR w B E1 a A ∧ OwnR w E1 E2 l L ∧ OwnF w E2 d D
theorem OwnP.PS {w : World} {B : Nat} {v : Value} {A L D : List Nat} (h : OwnP w B v A L D) : PS w v A L D := by
  obtain ⟨a, l, d, E1, E2, rfl, _, _, h1, h2, h3⟩ := h
  exact ⟨a, l, d, rfl, h1.1.FS, h2.1.FS, h3.FS⟩
theorem OwnP.later {w w' : World} {B : Nat} {v : Value} {A L D : List Nat} (h : OwnP w B v A L D) (hb : Below w.heap.size w w') : OwnP w' B v A L D := by
  obtain ⟨a, l, d, E1, E2, rfl, q1, q2, h1, h2, h3⟩ := h
  exact ⟨a, l, d, E1, E2, rfl, q1, q2, h1.later hb, h2.later hb, h3.later hb⟩

/-- What is known on the way of a law: of what was there when it began nothing has turned, and some structs read as some lists. -/
def LiveP (w0 w : World) (l : List (Value × List Nat × List Nat × List Nat)) : Prop := Below w0.heap.size w0 w ∧ ∀ v A L D, (v, A, L, D) ∈ l → PS w v A L D
theorem LiveP.start {w : World} : LiveP w w [] := ⟨Below.refl _ _, fun _ _ _ _ h => by cases h⟩
theorem LiveP.add {w0 w : World} {l : List (Value × List Nat × List Nat × List Nat)} (h : LiveP w0 w l) {v : Value} {A L D : List Nat} (hf : PS w v A L D) : LiveP w0 w ((v, A, L, D) :: l) := by
  refine ⟨h.1, fun v' A' L' D' hm => ?_⟩
  cases hm with
  | head => exact hf
  | tail _ hm => exact h.2 _ _ _ _ hm
theorem LiveP.step {w0 w w' : World} {l : List (Value × List Nat × List Nat × List Nat)} (h : LiveP w0 w l) (hb : Below w.heap.size w w') : LiveP w0 w' l :=
  ⟨h.1.trans (hb.mono h.1.size), fun v A L D hm => (h.2 v A L D hm).later hb⟩
theorem LiveP.drawn {w0 w w' : World} {l : List (Value × List Nat × List Nat × List Nat)} (h : LiveP w0 w l) {n : Nat} (hw : w' = w.drewN n) : LiveP w0 w' l := by
  subst hw; exact h.step (below_dn (Below.refl _ _) n)

set_option maxHeartbeats 800000 in
theorem toProfile_any (w : World) (v : Value) (A L D : List Nat) (h : PS w v A L D) (hA : A.length ≤ 1048576) (hL : L.length ≤ 1048576) (hD : D.length ≤ 1048576) :
    Calls Try.prog 26 #[v] w (fun e w' => ∃ v', e = .returned v' ∧ OwnP w' w.heap.size v' A L D ∧ Below w.heap.size w w') := by
  obtain ⟨a1, a2, a3, l1, l2, l3, d1, d2, d3, rfl, fa, fl, fd⟩ := h.shape
  have FA := Lib.hid fa; have FL := Lib.hid fl; have FD := Lib.hid fd
  clear fa fl fd h
  go_enter Try.func26, Try.ntmps26
  go_wp2_with fail
  obtain ⟨w0, hw0⟩ : ∃ w0, w0 = (((w.alloc (Obj.cells #[Value.slice a1 a2 a3, Value.slice l1 l2 l3, Value.slice d1 d2 d3] 33)).alloc
    (Obj.cells #[Value.slice none 0 0, Value.slice none 0 0, Value.slice none 0 0] 36)).alloc (Obj.cells #[Value.slice none 0 0, Value.slice none 0 0, Value.slice none 0 0] 36)) := ⟨_, rfl⟩
  have HB0 : Hid (Below w.heap.size w w0) := Lib.hid (by rw [hw0]; exact (((Below.refl _ _).alloc (Nat.le_refl _) _).alloc (by simp) _).alloc (by simp; omega) _)
  have hz0 : w0.heap.size = w.heap.size + 3 := by rw [hw0]; simp
  have KP : Hid (Blk w0 w.heap.size #[Value.slice a1 a2 a3, Value.slice l1 l2 l3, Value.slice d1 d2 d3] 33) := Lib.hid (by rw [hw0]; exact ((Blk.new _ _ _).alloc _).alloc _)
  have KR : Hid (Blk w0 (w.heap.size + 1) #[Value.slice none 0 0, Value.slice none 0 0, Value.slice none 0 0] 36) := Lib.hid (by
    rw [hw0]; have := (Blk.new (w.alloc (Obj.cells #[Value.slice a1 a2 a3, Value.slice l1 l2 l3, Value.slice d1 d2 d3] 33)) #[Value.slice none 0 0, Value.slice none 0 0, Value.slice none 0 0] 36).alloc (Obj.cells #[Value.slice none 0 0, Value.slice none 0 0, Value.slice none 0 0] 36); simpa using this)
  have KO : Hid (Blk w0 (w.heap.size + 1 + 1) #[Value.slice none 0 0, Value.slice none 0 0, Value.slice none 0 0] 36) := Lib.hid (by
    rw [hw0]; have := (Blk.new ((w.alloc (Obj.cells #[Value.slice a1 a2 a3, Value.slice l1 l2 l3, Value.slice d1 d2 d3] 33)).alloc (Obj.cells #[Value.slice none 0 0, Value.slice none 0 0, Value.slice none 0 0] 36)) #[Value.slice none 0 0, Value.slice none 0 0, Value.slice none 0 0] 36); simpa using this)
  rw [← hw0]
  have HZ := Lib.hid hz0
  clear hz0 hw0
  -- the first slice
  refine (toFloat32S_any _ _ A (FA.out.later HB0.out) hA).mono ?_
  rintro e w1 ⟨v1, rfl, ho, hb⟩
  obtain ⟨x1, y1, z1, rfl⟩ := ho.shape
  have KP1 := Lib.hid (KP.out.later hb); have KR1 := Lib.hid (KR.out.later hb); have KO1 := Lib.hid (KO.out.later hb)
  have HO := Lib.hid ho; have HB := Lib.hid hb
  have HB1 := Lib.hid (HB0.out.trans (hb.mono (by have := HZ.out; omega)))
  clear ho hb KP KR KO HB0
  have k1 : w1.cell? ⟨w.heap.size, 1, none⟩ = some (.slice l1 l2 l3) := KP1.out.cell 1
  have o0 : w1.cell? ⟨w.heap.size + 1 + 1, 0, none⟩ = some (.slice none 0 0) := KO1.out.cell 0
  have q0 : w1.frozen? ⟨w.heap.size + 1 + 1, 0, none⟩ = false := KO1.out.free 0
  go_wp2_with fail
  obtain ⟨w1', hw1⟩ : ∃ w1', w1' = w1.setCell ⟨w.heap.size + 1 + 1, 0, none⟩ (Value.slice x1 y1 z1) := ⟨_, rfl⟩
  rw [← hw1]
  have KP2 : Hid (Blk w1' _ _ _) := Lib.hid (by rw [hw1]; exact KP1.out.other (by omega) _ _)
  have KR2 : Hid (Blk w1' _ _ _) := Lib.hid (by rw [hw1]; exact KR1.out.other (by omega) _ _)
  have KO2 : Hid (Blk w1' (w.heap.size + 1 + 1) #[Value.slice x1 y1 z1, Value.slice none 0 0, Value.slice none 0 0] 36) := Lib.hid (by rw [hw1]; exact KO1.out.set 0 _)
  have HO1 : Hid (OwnF w1' w0.heap.size (Value.slice x1 y1 z1) A) := Lib.hid (by rw [hw1]; exact HO.out.setOther (by have := HZ.out; simp; omega) _)
  have HB1' : Hid (Below w.heap.size w w1') := Lib.hid (by rw [hw1]; exact HB1.out.setCell (p := ⟨w.heap.size + 1 + 1, 0, none⟩) (by simp; omega) _)
  have hz1 : w1'.heap.size = w1.heap.size := by rw [hw1]; simp [World.setCell]
  have HZ1 : Hid (w.heap.size + 3 ≤ w1'.heap.size) := Lib.hid (by rw [hz1]; have := HB.out.size; have := HZ.out; omega)
  clear KP1 KR1 KO1 HO HB HB1 k1 o0 q0 hz1 hw1
  -- the second slice
  refine (toFloat32S_any _ _ L (FL.out.later HB1'.out) hL).mono ?_
  rintro e w2 ⟨v2, rfl, ho, hb⟩
  obtain ⟨x2, y2, z2, rfl⟩ := ho.shape
  have KP3 := Lib.hid (KP2.out.later hb); have KR3 := Lib.hid (KR2.out.later hb); have KO3 := Lib.hid (KO2.out.later hb)
  have HO2 := Lib.hid ho; have HB := Lib.hid hb
  have HO1' := Lib.hid (HO1.out.later hb)
  have HB2 := Lib.hid (HB1'.out.trans (hb.mono (by have := HZ1.out; omega)))
  have HE1 := Lib.hid (HO1.out.lt)
  clear ho hb KP2 KR2 KO2 HB1' HO1
  have k2 : w2.cell? ⟨w.heap.size, 2, none⟩ = some (.slice d1 d2 d3) := KP3.out.cell 2
  have o1 : w2.cell? ⟨w.heap.size + 1 + 1, 1, none⟩ = some (.slice none 0 0) := KO3.out.cell 1
  have q1 : w2.frozen? ⟨w.heap.size + 1 + 1, 1, none⟩ = false := KO3.out.free 1
  go_wp2_with fail
  obtain ⟨w2', hw2⟩ : ∃ w2', w2' = w2.setCell ⟨w.heap.size + 1 + 1, 1, none⟩ (Value.slice x2 y2 z2) := ⟨_, rfl⟩
  rw [← hw2]
  have KR4 : Hid (Blk w2' _ _ _) := Lib.hid (by rw [hw2]; exact KR3.out.other (by omega) _ _)
  have KO4 : Hid (Blk w2' (w.heap.size + 1 + 1) #[Value.slice x1 y1 z1, Value.slice x2 y2 z2, Value.slice none 0 0] 36) := Lib.hid (by rw [hw2]; exact KO3.out.set 1 _)
  have HO1 : Hid (OwnF w2' w0.heap.size (Value.slice x1 y1 z1) A) := Lib.hid (by rw [hw2]; exact HO1'.out.setOther (by have := HZ.out; simp; omega) _)
  have HO2' : Hid (OwnF w2' w1'.heap.size (Value.slice x2 y2 z2) L) := Lib.hid (by rw [hw2]; exact HO2.out.setOther (by have := HZ1.out; simp; omega) _)
  have HB2' : Hid (Below w.heap.size w w2') := Lib.hid (by rw [hw2]; exact HB2.out.setCell (p := ⟨w.heap.size + 1 + 1, 1, none⟩) (by simp; omega) _)
  have hz2 : w2'.heap.size = w2.heap.size := by rw [hw2]; simp [World.setCell]
  have HZ2 : Hid (w1'.heap.size ≤ w2'.heap.size) := Lib.hid (by rw [hz2]; exact HB.out.size)
  clear KP3 KR3 KO3 HO1' HO2 HB HB2 k2 o1 q1 hz2 hw2
  -- the third slice
  refine (toFloat32S_any _ _ D (FD.out.later HB2'.out) hD).mono ?_
  rintro e w3 ⟨v3, rfl, ho, hb⟩
  obtain ⟨x3, y3, z3, rfl⟩ := ho.shape
  have KR5 := Lib.hid (KR4.out.later hb); have KO5 := Lib.hid (KO4.out.later hb)
  have HO3 := Lib.hid ho; have HB := Lib.hid hb
  have HO1' := Lib.hid (HO1.out.later hb); have HO2'' := Lib.hid (HO2'.out.later hb)
  have HB3 := Lib.hid (HB2'.out.trans (hb.mono (by have := HZ1.out; have := HZ2.out; omega)))
  have HE2 := Lib.hid (HO2'.out.lt)
  clear ho hb KR4 KO4 HB2' HO1 HO2'
  have o0 : w3.cell? ⟨w.heap.size + 1 + 1, 0, none⟩ = some (.slice x1 y1 z1) := KO5.out.cell 0
  have o1 : w3.cell? ⟨w.heap.size + 1 + 1, 1, none⟩ = some (.slice x2 y2 z2) := KO5.out.cell 1
  have o2 : w3.cell? ⟨w.heap.size + 1 + 1, 2, none⟩ = some (.slice none 0 0) := KO5.out.cell 2
  have q2 : w3.frozen? ⟨w.heap.size + 1 + 1, 2, none⟩ = false := KO5.out.free 2
  have r0 : w3.cell? ⟨w.heap.size + 1, 0, none⟩ = some (.slice none 0 0) := KR5.out.cell 0
  have r1 : w3.cell? ⟨w.heap.size + 1, 1, none⟩ = some (.slice none 0 0) := KR5.out.cell 1
  have r2 : w3.cell? ⟨w.heap.size + 1, 2, none⟩ = some (.slice none 0 0) := KR5.out.cell 2
  have s0 : w3.frozen? ⟨w.heap.size + 1, 0, none⟩ = false := KR5.out.free 0
  have s1 : w3.frozen? ⟨w.heap.size + 1, 1, none⟩ = false := KR5.out.free 1
  have s2 : w3.frozen? ⟨w.heap.size + 1, 2, none⟩ = false := KR5.out.free 2
  go_wp2
  obtain ⟨wf, hwf⟩ : ∃ wf, wf = ((((w3.setCell ⟨w.heap.size + 1 + 1, 2, none⟩ (Value.slice x3 y3 z3)).setCell ⟨w.heap.size + 1, 0, none⟩ (Value.slice x1 y1 z1)).setCell ⟨w.heap.size + 1, 1, none⟩ (Value.slice x2 y2 z2)).setCell ⟨w.heap.size + 1, 2, none⟩ (Value.slice x3 y3 z3)) := ⟨_, rfl⟩
  rw [← hwf]
  have KF : Blk wf (w.heap.size + 1) #[Value.slice x1 y1 z1, Value.slice x2 y2 z2, Value.slice x3 y3 z3] 36 := by rw [hwf]; exact (((KR5.out.other (by omega) _ _).set 0 _).set 1 _).set 2 _
  have c0 : wf.cell? ⟨w.heap.size + 1, 0, none⟩ = some (.slice x1 y1 z1) := KF.cell 0
  have c1 : wf.cell? ⟨w.heap.size + 1, 1, none⟩ = some (.slice x2 y2 z2) := KF.cell 1
  have c2 : wf.cell? ⟨w.heap.size + 1, 2, none⟩ = some (.slice x3 y3 z3) := KF.cell 2
  have e0 := HZ.out; have e1 := HZ1.out; have e2 := HZ2.out; have e3 := HB.out.size
  refine bodyPost_ret (v := .agg #[.slice x1 y1 z1, .slice x2 y2 z2, .slice x3 y3 z3]) (by simp [results, Try.results26, go_sem, c0, c1, c2]) rfl ⟨_, rfl, ⟨_, _, _, w1'.heap.size, w2'.heap.size, rfl, by omega, by omega, ⟨?_, HE1.out⟩, ⟨?_, HE2.out⟩, ?_⟩, ?_⟩
  · rw [hwf]; exact ((((HO1'.out.setOther (by simp; omega) _).setOther (by simp; omega) _).setOther (by simp; omega) _).setOther (by simp; omega) _).base (by omega)
  · rw [hwf]; exact ((((HO2''.out.setOther (by simp; omega) _).setOther (by simp; omega) _).setOther (by simp; omega) _).setOther (by simp; omega) _)
  · rw [hwf]; exact ((((HO3.out.setOther (by simp; omega) _).setOther (by simp; omega) _).setOther (by simp; omega) _).setOther (by simp; omega) _)
  · rw [hwf]; exact (((HB3.out.setCell (by simp; omega) _).setCell (by simp) _).setCell (by simp) _).setCell (by simp) _

theorem szFloat32S_fits (w : World) (a : Option Addr) (len cap : Nat) (left : Int) (h1 : left ≤ 1048576) (h : (len : Int) ≤ left) :
    Calls Try.prog 61 #[.slice a len cap, .int .i64 left] w (Ret (.int .i64 (left - len)) w) := by
  go_enter Try.func61, Try.ntmps61
  go_wp2
  go_ret
  exact .mk' 0 rfl rfl
theorem szFloat32S_over (w : World) (a : Option Addr) (len cap : Nat) (left : Int) (hl : (len : Int) ≤ 9223372036854775807) (h0 : 0 ≤ left) (h1 : left ≤ 1048576) (h : left < (len : Int)) :
    Calls Try.prog 61 #[.slice a len cap, .int .i64 left] w (Ret (.int .i64 (-1)) w) := by
  go_enter Try.func61, Try.ntmps61
  go_wp2
  go_ret
  exact .mk' 0 rfl rfl

theorem szProfile_fits (w : World) (v : Value) (A L D : List Nat) (left : Int) (h : PS w v A L D) (h1 : left ≤ 1048576) (hf : (A.length : Int) + L.length + D.length ≤ left) :
    Calls Try.prog 24 #[v, .int .i64 left] w (RetB (.int .i64 (left - A.length - L.length - D.length)) w) := by
  obtain ⟨a1, a2, a3, l1, l2, l3, d1, d2, d3, rfl, fa, fl, fd⟩ := h.shape
  obtain ⟨rfl, ma, _⟩ := fa.at
  obtain ⟨rfl, ml, _⟩ := fl.at
  obtain ⟨rfl, md, _⟩ := fd.at
  clear fa fl fd h ma ml md
  go_enter Try.func24, Try.ntmps24
  go_wp2_with fail
  refine (szFloat32S_fits _ _ _ _ _ h1 (by omega)).mono ?_
  rintro e w1 ⟨rfl, n1, rfl⟩
  go_wp2_with fail
  refine (szFloat32S_fits _ _ _ _ _ (by omega) (by omega)).mono ?_
  rintro e w1 ⟨rfl, n2, rfl⟩
  go_wp2_with fail
  refine (szFloat32S_fits _ _ _ _ _ (by omega) (by omega)).mono ?_
  rintro e w1 ⟨rfl, n3, rfl⟩
  go_wp2
  go_ret
  exact .mk' rfl (below_dn ((Below.refl _ _).alloc (Nat.le_refl _) _) _)
theorem szProfile_over (w : World) (v : Value) (A L D : List Nat) (left : Int) (h : PS w v A L D) (h0 : 0 ≤ left) (h1 : left ≤ 1048576) (hf : ¬ (A.length : Int) + L.length + D.length ≤ left) :
    Calls Try.prog 24 #[v, .int .i64 left] w (RetB (.int .i64 (-1)) w) := by
  obtain ⟨a1, a2, a3, l1, l2, l3, d1, d2, d3, rfl, fa, fl, fd⟩ := h.shape
  obtain ⟨rfl, ma, _⟩ := fa.at
  obtain ⟨rfl, ml, _⟩ := fl.at
  obtain ⟨rfl, md, _⟩ := fd.at
  unfold maxLen at ma ml md
  clear fa fl fd h
  have q1 : (A.length : Int) ≤ 9223372036854775807 := by omega
  have q2 : (L.length : Int) ≤ 9223372036854775807 := by omega
  have q3 : (D.length : Int) ≤ 9223372036854775807 := by omega
  clear ma ml md
  by_cases c1 : left < (A.length : Int)
  · clear hf
    go_enter Try.func24, Try.ntmps24
    go_wp2_with fail
    refine (szFloat32S_over _ _ _ _ _ q1 h0 h1 c1).mono ?_
    rintro e w1 ⟨rfl, n1, rfl⟩
    go_wp2
    go_ret
    exact .mk' rfl (below_dn ((Below.refl _ _).alloc (Nat.le_refl _) _) _)
  · by_cases c2 : left - (A.length : Int) < (L.length : Int)
    · clear hf
      go_enter Try.func24, Try.ntmps24
      go_wp2_with fail
      refine (szFloat32S_fits _ _ _ _ _ h1 (by omega)).mono ?_
      rintro e w1 ⟨rfl, n1, rfl⟩
      go_wp2_with fail
      refine (szFloat32S_over _ _ _ _ _ q2 (by omega) (by omega) c2).mono ?_
      rintro e w1 ⟨rfl, n2, rfl⟩
      go_wp2
      go_ret
      exact .mk' rfl (below_dn ((Below.refl _ _).alloc (Nat.le_refl _) _) _)
    · have c3 : left - (A.length : Int) - (L.length : Int) < (D.length : Int) := by omega
      clear hf
      go_enter Try.func24, Try.ntmps24
      go_wp2_with fail
      refine (szFloat32S_fits _ _ _ _ _ h1 (by omega)).mono ?_
      rintro e w1 ⟨rfl, n1, rfl⟩
      go_wp2_with fail
      refine (szFloat32S_fits _ _ _ _ _ (by omega) (by omega)).mono ?_
      rintro e w1 ⟨rfl, n2, rfl⟩
      go_wp2_with fail
      refine (szFloat32S_over _ _ _ _ _ q3 (by omega) (by omega) c3).mono ?_
      rintro e w1 ⟨rfl, n3, rfl⟩
      go_wp2
      go_ret
      exact .mk' rfl (below_dn ((Below.refl _ _).alloc (Nat.le_refl _) _) _)

/-- Lists of the same classes. -/
def sameCls (zs ys : List Nat) : Prop := zs.length = ys.length ∧ ∀ i, i < zs.length → cls .f32 (zs.getD i 0) = cls .f32 (ys.getD i 0)
theorem sameCls.refl (zs : List Nat) : sameCls zs zs := ⟨rfl, fun _ _ => rfl⟩

theorem eqProfile_true (w : World) (v v' : Value) (A L D A' L' D' : List Nat) (h : PS w v A L D) (h' : PS w v' A' L' D') (hA : sameCls A A') (hL : sameCls L L') (hD : sameCls D D') :
    Calls Try.prog 28 #[v, v'] w (RetB (.bool true) w) := by
  obtain ⟨a1, a2, a3, l1, l2, l3, d1, d2, d3, rfl, fa, fl, fd⟩ := h.shape
  obtain ⟨a1', a2', a3', l1', l2', l3', d1', d2', d3', rfl, fa', fl', fd'⟩ := h'.shape
  have FA := Lib.hid fa; have FL := Lib.hid fl; have FD := Lib.hid fd
  have FA' := Lib.hid fa'; have FL' := Lib.hid fl'; have FD' := Lib.hid fd'
  have HA := Lib.hid hA; have HL := Lib.hid hL; have HD := Lib.hid hD
  clear fa fl fd h fa' fl' fd' h' hA hL hD
  have HB : Hid (Below w.heap.size w ((w.alloc (Obj.cells #[Value.slice a1 a2 a3, Value.slice l1 l2 l3, Value.slice d1 d2 d3] 36)).alloc (Obj.cells #[Value.slice a1' a2' a3', Value.slice l1' l2' l3', Value.slice d1' d2' d3'] 36))) := Lib.hid (((Below.refl _ _).alloc (Nat.le_refl _) _).alloc (by simp) _)
  go_enter Try.func28, Try.ntmps28
  go_wp2_with fail
  refine (eqFloat32S_true _ _ _ A A' (FA.out.later HB.out) (FA'.out.later HB.out) HA.out.1 HA.out.2).mono ?_
  rintro e w1 ⟨rfl, n1, rfl⟩
  go_wp2_with fail
  refine (eqFloat32S_true _ _ _ L L' ((FL.out.later HB.out).drewN _) ((FL'.out.later HB.out).drewN _) HL.out.1 HL.out.2).mono ?_
  rintro e w1 ⟨rfl, n2, rfl⟩
  go_wp2_with fail
  refine (eqFloat32S_true _ _ _ D D' ((FD.out.later HB.out).drewN _) ((FD'.out.later HB.out).drewN _) HD.out.1 HD.out.2).mono ?_
  rintro e w1 ⟨rfl, n3, rfl⟩
  go_wp2
  go_ret
  exact .mk' rfl (below_dn HB.out _)

end Go.Proofs.Ytdkgdinbglkjcaa
