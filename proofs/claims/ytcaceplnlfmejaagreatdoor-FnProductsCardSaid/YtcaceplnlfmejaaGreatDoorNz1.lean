/- The generators: a source of bytes and what is drawn from it. -/
import Derived.Test.YtcaceplnlfmejaaGreatDoorWt14
import Derived.Test.YtcaceplnlfmejaaGreatDoorWk4
import Derived.Test.YtcaceplnlfmejaaGreatDoorSft
import Derived.Maps.AppendAt
import Derived.Handy
namespace Go.Proofs.YtcaceplnlfmejaaGreatDoor
open Fl Go.RowKit

/-- A block of cells, none of which is frozen. -/
def Blk (w : World) (b : Nat) (cs : Array Value) (T : TypeId) : Prop := w.heap[b]? = some (.cells cs T (0, 0))
theorem Blk.lt {w : World} {b : Nat} {cs : Array Value} {T : TypeId} (h : Blk w b cs T) : b < w.heap.size := by
  rcases Nat.lt_or_ge b w.heap.size with q | q
  · exact q
  · unfold Blk at h; rw [Array.getElem?_eq_none q] at h; cases h
theorem Blk.cell {w : World} {b : Nat} {cs : Array Value} {T : TypeId} (h : Blk w b cs T) (i : Nat) : w.cell? ⟨b, i, none⟩ = cs[i]? := by
  unfold Blk at h; simp [World.cell?, h]
theorem Blk.free {w : World} {b : Nat} {cs : Array Value} {T : TypeId} (h : Blk w b cs T) (i : Nat) : w.frozen? ⟨b, i, none⟩ = false := by
  unfold Blk at h; simp [World.frozen?, h]
theorem Blk.keep {w w' : World} {b B : Nat} {cs : Array Value} {T : TypeId} (h : Blk w b cs T) (hb : Below B w w') (hB : b < B) : Blk w' b cs T := by
  unfold Blk at *; rw [hb.block b hB]; exact h
theorem Blk.later {w w' : World} {b : Nat} {cs : Array Value} {T : TypeId} (h : Blk w b cs T) (hb : Below w.heap.size w w') : Blk w' b cs T := h.keep hb h.lt
theorem Blk.set {w : World} {b : Nat} {cs : Array Value} {T : TypeId} (h : Blk w b cs T) (i : Nat) (v : Value) : Blk (w.setCell ⟨b, i, none⟩ v) b (cs.setIfInBounds i v) T :=
  heap_setCell_same w b i cs T v h
theorem Blk.other {w : World} {b b' : Nat} {cs : Array Value} {T : TypeId} (h : Blk w b cs T) (hne : b ≠ b') (i : Nat) (v : Value) : Blk (w.setCell ⟨b', i, none⟩ v) b cs T := by
  unfold Blk at *; rw [Below.heap_setCell _ _ _ _ hne]; exact h
theorem Blk.alloc {w : World} {b : Nat} {cs : Array Value} {T : TypeId} (h : Blk w b cs T) (o : Obj) : Blk (w.alloc o) b cs T := by
  have := h.lt
  unfold Blk at *; rw [Below.heap_alloc _ _ _ this]; exact h
theorem Blk.new (w : World) (cs : Array Value) (T : TypeId) : Blk (w.alloc (.cells cs T)) w.heap.size cs T := heap_alloc_new w _

theorem Blk.kept {w w' : World} {b : Nat} {cs : Array Value} {T : TypeId} {row : Option Nat} (h : Blk w b cs T) (hg : w.grownBy w' row) (hne : row ≠ some b) : Blk w' b cs T := by
  unfold Blk at *
  rw [hg.block b (by rcases Nat.lt_or_ge b w.heap.size with q | q; exact q; rw [Array.getElem?_eq_none q] at h; cases h) (fun e => hne e.symm)]
  exact h
theorem zb_set (w : World) (b i : Nat) (v : Value) : w.grownBy (w.setCell ⟨b, i, none⟩ v) (some b) :=
  ⟨rfl, rfl, rfl, by simp [World.setCell], fun k _ hne => Below.heap_setCell _ _ _ _ (fun e => hne (by rw [e]))⟩
theorem zb_below {w w' : World} (h : Below w.heap.size w w') (row : Option Nat) : w.grownBy w' row := ⟨h.os, h.tape, h.output, h.size, fun k hk _ => h.block k hk⟩
theorem zbelow {B : Nat} {a w w' : World} {row : Option Nat} (h : Below B a w) (hg : w.grownBy w' row) (hB : B ≤ w.heap.size) (hr : ∀ k, row = some k → B ≤ k) : Below B a w' := h.grown hg hB hr

theorem cells3 {w : World} {b : Nat} {x y z : Value} {T : TypeId} (k : Blk w b #[x, y, z] T) :
    (w.cell? ⟨b, 0, none⟩ = some x ∧ w.cell? ⟨b, 1, none⟩ = some y ∧ w.cell? ⟨b, 2, none⟩ = some z) ∧ w.frozen? ⟨b, 0, none⟩ = false ∧ w.frozen? ⟨b, 1, none⟩ = false ∧ w.frozen? ⟨b, 2, none⟩ = false :=
  ⟨⟨k.cell 0, k.cell 1, k.cell 2⟩, k.free 0, k.free 1, k.free 2⟩


def fB : Int → Value := Value.int .u8
/-- A source: its box, the bytes that it reads, how many it has read. -/
structure Src (w0 w : World) (sb : Nat) (cv : Value) (code : List Int) (n : Nat) : Prop where
  sl : XS fB w0 cv code
  by' : ∀ z ∈ code, 0 ≤ z ∧ z ≤ 255
  le : code.length ≤ 1048576
  bel : Below w0.heap.size w0 w
  far : w0.heap.size ≤ sb
  blk : ∃ seed : Int, Blk w sb #[cv, .int .i64 (n : Int), .int .u64 seed] 89

theorem zb_drewN (w : World) (n : Nat) (row : Option Nat) : w.grownBy (w.drewN n) row := ⟨rfl, rfl, rfl, Nat.le_refl _, fun _ _ _ => rfl⟩

theorem and255 (y : Int) : 0 ≤ wrap64 (bits .and .u64 y 255) ∧ wrap64 (bits .and .u64 y 255) ≤ 255 := by
  have e : bits .and .u64 y 255 = IntKind.u64.wrap ((BitVec.ofInt 64 y &&& BitVec.ofInt 64 255).toNat : Int) := rfl
  have h : (BitVec.ofInt 64 y &&& BitVec.ofInt 64 255).toNat ≤ 255 := by rw [BitVec.toNat_and]; exact Nat.le_trans Nat.and_le_right (by decide)
  rw [e]
  generalize (BitVec.ofInt 64 y &&& BitVec.ofInt 64 255).toNat = m at *
  rw [show IntKind.u64.wrap (m : Int) = m by rw [IntKind.wrap_u64]; omega]
  unfold wrap64
  omega

set_option maxRecDepth 20000 in
theorem src_next (w0 w : World) (sb : Nat) (cv : Value) (code : List Int) (n : Nat) (h : Src w0 w sb cv code n) (hn : n ≤ 1000000) :
    Calls Tryz.prog 70 #[.pointer (some ⟨sb, 0, none⟩)] w (fun e w' => ∃ x : Int, 0 ≤ x ∧ x ≤ 255 ∧ e = .returned (.int .i64 x) ∧ Src w0 w' sb cv code (n + 1) ∧ w.grownBy w' (some sb)) := by
  obtain ⟨a, len, cap, rfl⟩ := h.sl.shape
  obtain ⟨rfl, hm, HC⟩ := h.sl.at
  obtain ⟨seed, hk⟩ := h.blk
  obtain ⟨⟨c0, c1, c2⟩, g0, g1, g2⟩ := cells3 hk
  have HB := Lib.hid h
  have HK := Lib.hid hk
  have hle : (code.length : Int) ≤ 1048576 := by have := h.le; omega
  have hn' : (n : Int) ≤ 1000000 := by omega
  clear h hk hm hn
  by_cases hlt : n < code.length
  · have hlt' : (n : Int) < code.length := by omega
    have hle2 : (n : Int) + 1 ≤ code.length := by omega
    obtain ⟨b, off, rfl, hb, hcx⟩ := HC.out n code[n] (by simp [hlt])
    have hcx' : w.cell? ⟨b, off + n, none⟩ = some (.int .u8 code[n]) := (HB.out.bel.cell (p := ⟨b, off + n, none⟩) hb).trans hcx
    obtain ⟨x0, x1⟩ := HB.out.by' code[n] (List.getElem_mem _)
    generalize code[n] = x at *
    have hwx : IntKind.i64.wrap x = x := by rw [IntKind.wrap_i64]; omega
    have hwx : IntKind.i64.wrap x = x := by rw [IntKind.wrap_i64]; omega
    have hwx : IntKind.i64.wrap x = x := by rw [IntKind.wrap_i64]; omega
    go_enter Tryz.func70, Tryz.ntmps70
    go_wp2_with fail
    refine Soft.region (fun _ _ _ => False) (by kernel_rfl) (by kernel_rfl) ?_
    iterate 10 (with_reducible refine Soft.step_k (fun K hK => ?_); go_simp; (try intro nn); with_reducible refine hK _ ?_; clear hK K)
    refine Soft.wpSoft_nil ?_
    intro n1
    obtain ⟨w1, hw1⟩ : ∃ w1, w1 = w.drewN n1 := ⟨_, rfl⟩
    rw [← hw1]
    replace c0 : w1.cell? ⟨sb, 0, none⟩ = some (.slice (some ⟨b, off, none⟩) code.length cap) := by rw [hw1]; exact c0
    replace c1 : w1.cell? ⟨sb, 1, none⟩ = some (.int .i64 (n : Int)) := by rw [hw1]; exact c1
    replace c2 : w1.cell? ⟨sb, 2, none⟩ = some (.int .u64 seed) := by rw [hw1]; exact c2
    replace g1 : w1.frozen? ⟨sb, 1, none⟩ = false := by rw [hw1]; exact g1
    replace g2 : w1.frozen? ⟨sb, 2, none⟩ = false := by rw [hw1]; exact g2
    replace hcx' : w1.cell? ⟨b, off + n, none⟩ = some (.int .u8 x) := by rw [hw1]; exact hcx'
    have HW1 := Lib.hid hw1
    clear hw1
    go_wp2_with fail
    refine Soft.region (fun _ _ _ => False) (by kernel_rfl) (by kernel_rfl) ?_
    iterate 12 (with_reducible refine Soft.step_k (fun K hK => ?_); go_simp; (try intro nn); with_reducible refine hK _ ?_; clear hK K)
    refine Soft.wpSoft_nil ?_
    intro n2
    obtain ⟨w2, hw2⟩ : ∃ w2, w2 = w1.drewN n2 := ⟨_, rfl⟩
    rw [← hw2]
    replace c0 : w2.cell? ⟨sb, 0, none⟩ = some (.slice (some ⟨b, off, none⟩) code.length cap) := by rw [hw2]; exact c0
    replace c1 : w2.cell? ⟨sb, 1, none⟩ = some (.int .i64 (n : Int)) := by rw [hw2]; exact c1
    replace c2 : w2.cell? ⟨sb, 2, none⟩ = some (.int .u64 seed) := by rw [hw2]; exact c2
    replace g1 : w2.frozen? ⟨sb, 1, none⟩ = false := by rw [hw2]; exact g1
    replace g2 : w2.frozen? ⟨sb, 2, none⟩ = false := by rw [hw2]; exact g2
    replace hcx' : w2.cell? ⟨b, off + n, none⟩ = some (.int .u8 x) := by rw [hw2]; exact hcx'
    have HW2 := Lib.hid hw2
    clear hw2
    go_wp2_with fail
    generalize IntKind.u64.wrap (IntKind.u64.wrap (IntKind.u64.wrap (seed * 6364136223846793005) + x) + 1442695040888963407) = s2
    have K2 : Blk w2 sb #[Value.slice (some ⟨b, off, none⟩) code.length cap, .int .i64 (n : Int), .int .u64 seed] 89 := by rw [HW2.out, HW1.out]; exact HK.out
    have G2 : w.grownBy w2 (some sb) := by rw [HW2.out, HW1.out]; exact (zb_drewN _ _ _).trans (zb_drewN _ _ _)
    have K3 := (K2.set 1 (.int .i64 ((n : Int) + 1))).set 2 (.int .u64 s2)
    have G3 := (G2.trans (zb_set _ _ 1 (.int .i64 ((n : Int) + 1)))).trans (zb_set _ _ 2 (.int .u64 s2))
    obtain ⟨w3, hw3⟩ : ∃ w3, w3 = (w2.setCell ⟨sb, 1, none⟩ (.int .i64 ((n : Int) + 1))).setCell ⟨sb, 2, none⟩ (.int .u64 s2) := ⟨_, rfl⟩
    rw [← hw3] at K3 G3 ⊢
    clear hw3 c0 c1 c2 g1 g2 hcx' K2 G2
    obtain ⟨⟨c0, c1, c2⟩, _⟩ := cells3 K3
    have HK3 := Lib.hid K3; have HG3 := Lib.hid G3
    clear K3 G3
    refine Soft.region (fun _ _ _ => False) (by kernel_rfl) (by kernel_rfl) ?_
    iterate 10 (with_reducible refine Soft.step_k (fun K hK => ?_); go_simp; (try intro nn); with_reducible refine hK _ ?_; clear hK K)
    refine Soft.wpSoft_nil ?_
    intro n3
    have HE : Hid (Src w0 (w3.drewN n3) sb (.slice (some ⟨b, off, none⟩) code.length cap) code (n + 1)) := Lib.hid ⟨HB.out.sl, HB.out.by', HB.out.le, below_dn (HB.out.bel.grown HG3.out HB.out.bel.size (fun k e => by cases e; exact HB.out.far)) n3, HB.out.far, _, HK3.out⟩
    have HF : Hid (w.grownBy (w3.drewN n3) (some sb)) := Lib.hid (HG3.out.trans (zb_drewN _ _ _))
    clear HK3 HG3 HK
    go_wp2
    go_ret
    exact ⟨x, x0, x1, rfl, HE.out, HF.out⟩
  · have hlt' : ¬ (n : Int) < code.length := by omega
    have hle2 : ¬ (n : Int) + 1 ≤ code.length := by omega
    go_enter Tryz.func70, Tryz.ntmps70
    go_wp2_with fail
    refine Soft.region (fun _ _ _ => False) (by kernel_rfl) (by kernel_rfl) ?_
    iterate 10 (with_reducible refine Soft.step_k (fun K hK => ?_); go_simp; (try intro nn); with_reducible refine hK _ ?_; clear hK K)
    refine Soft.wpSoft_nil ?_
    intro n1
    obtain ⟨w1, hw1⟩ : ∃ w1, w1 = w.drewN n1 := ⟨_, rfl⟩
    rw [← hw1]
    replace c0 : w1.cell? ⟨sb, 0, none⟩ = some (.slice a code.length cap) := by rw [hw1]; exact c0
    replace c1 : w1.cell? ⟨sb, 1, none⟩ = some (.int .i64 (n : Int)) := by rw [hw1]; exact c1
    replace c2 : w1.cell? ⟨sb, 2, none⟩ = some (.int .u64 seed) := by rw [hw1]; exact c2
    replace g1 : w1.frozen? ⟨sb, 1, none⟩ = false := by rw [hw1]; exact g1
    replace g2 : w1.frozen? ⟨sb, 2, none⟩ = false := by rw [hw1]; exact g2
    have HW1 := Lib.hid hw1
    clear hw1
    go_wp2_with fail
    generalize IntKind.u64.wrap (IntKind.u64.wrap (IntKind.u64.wrap (seed * 6364136223846793005)) + 1442695040888963407) = s2
    have K2 : Blk w1 sb #[Value.slice a code.length cap, .int .i64 (n : Int), .int .u64 seed] 89 := by rw [HW1.out]; exact HK.out
    have G2 : w.grownBy w1 (some sb) := by rw [HW1.out]; exact zb_drewN _ _ _
    have K3 := (K2.set 1 (.int .i64 ((n : Int) + 1))).set 2 (.int .u64 s2)
    have G3 := (G2.trans (zb_set _ _ 1 (.int .i64 ((n : Int) + 1)))).trans (zb_set _ _ 2 (.int .u64 s2))
    obtain ⟨w3, hw3⟩ : ∃ w3, w3 = (w1.setCell ⟨sb, 1, none⟩ (.int .i64 ((n : Int) + 1))).setCell ⟨sb, 2, none⟩ (.int .u64 s2) := ⟨_, rfl⟩
    rw [← hw3] at K3 G3 ⊢
    clear hw3 c0 c1 c2 g1 g2 K2 G2
    obtain ⟨⟨c0, c1, c2⟩, _⟩ := cells3 K3
    have HK3 := Lib.hid K3; have HG3 := Lib.hid G3
    clear K3 G3
    refine Soft.region (fun _ _ _ => False) (by kernel_rfl) (by kernel_rfl) ?_
    iterate 10 (with_reducible refine Soft.step_k (fun K hK => ?_); go_simp; (try intro nn); with_reducible refine hK _ ?_; clear hK K)
    refine Soft.wpSoft_nil ?_
    intro n3
    have HE : Hid (Src w0 (w3.drewN n3) sb (.slice a code.length cap) code (n + 1)) := Lib.hid ⟨HB.out.sl, HB.out.by', HB.out.le, below_dn (HB.out.bel.grown HG3.out HB.out.bel.size (fun k e => by cases e; exact HB.out.far)) n3, HB.out.far, _, HK3.out⟩
    have HF : Hid (w.grownBy (w3.drewN n3) (some sb)) := Lib.hid (HG3.out.trans (zb_drewN _ _ _))
    clear HK3 HG3 HK
    go_wp2
    go_ret
    exact ⟨_, (and255 _).1, (and255 _).2, rfl, HE.out, HF.out⟩

end Go.Proofs.YtcaceplnlfmejaaGreatDoor
