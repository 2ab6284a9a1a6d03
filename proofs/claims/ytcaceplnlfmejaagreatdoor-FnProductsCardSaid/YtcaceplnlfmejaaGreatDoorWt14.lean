/- Lists of numbers and of texts: copies, comparisons. -/
import Derived.Test.YtcaceplnlfmejaaGreatDoorWt11
import Derived.Lib.Join
import Derived.Deep.QuietTactic
namespace Go.Proofs.YtcaceplnlfmejaaGreatDoor
open Go.RowKit
open Lib (itoa decDigits parseIntB)

/-- A slice that reads as a list of elements. -/
def XS {α : Type} (f : α → Value) (w : World) (v : Value) (zs : List α) : Prop :=
  ∃ (a : Option Addr) (len cap : Nat), v = .slice a len cap ∧ zs.length = len ∧ len ≤ maxLen ∧
    (len = 0 ∨ ∃ b off, a = some ⟨b, off, none⟩ ∧ b < w.heap.size ∧ ∀ i x, zs[i]? = some x → w.cell? ⟨b, off + i, none⟩ = some (f x))
theorem XS.later {α : Type} {f : α → Value} {w w' : World} {v : Value} {zs : List α} (h : XS f w v zs) (hb : Below w.heap.size w w') : XS f w' v zs := by
  obtain ⟨a, len, cap, rfl, hl, hm, h⟩ := h
  refine ⟨a, len, cap, rfl, hl, hm, ?_⟩
  rcases h with h | ⟨b, off, rfl, hlt, hc⟩
  · exact .inl h
  · exact .inr ⟨b, off, rfl, Nat.lt_of_lt_of_le hlt hb.size, fun i x hi => (hb.cell (p := ⟨b, off + i, none⟩) hlt).trans (hc i x hi)⟩
theorem XS.at {α : Type} {f : α → Value} {w : World} {a : Option Addr} {len cap : Nat} {zs : List α} (h : XS f w (.slice a len cap) zs) : len = zs.length ∧ len ≤ maxLen ∧
    Hid (∀ i x, zs[i]? = some x → ∃ b off, a = some ⟨b, off, none⟩ ∧ b < w.heap.size ∧ w.cell? ⟨b, off + i, none⟩ = some (f x)) := by
  obtain ⟨a', len', cap', ev, hl, hm, h⟩ := h
  simp only [Value.slice.injEq] at ev
  obtain ⟨rfl, rfl, rfl⟩ := ev
  refine ⟨hl.symm, hm, Lib.hid fun i x hi => ?_⟩
  rcases h with h | ⟨b, off, rfl, hb, hc⟩
  · have := (List.getElem?_eq_some_iff.1 hi).1; omega
  · exact ⟨b, off, rfl, hb, hc i x hi⟩
theorem XS.shape {α : Type} {f : α → Value} {w : World} {v : Value} {zs : List α} (h : XS f w v zs) : ∃ a len cap, v = .slice a len cap := by
  obtain ⟨a, len, cap, e, _⟩ := h; exact ⟨a, len, cap, e⟩

/-- The call's own slice. -/
def OwnX {α : Type} (f : α → Value) (T : TypeId) (w : World) (B : Nat) (v : Value) (zs : List α) : Prop := w.ownsRow B T 1 v zs.length (zs.map f)
theorem OwnX.later {α : Type} {f : α → Value} {T : TypeId} {w w' : World} {B : Nat} {v : Value} {zs : List α} (h : OwnX f T w B v zs) (hb : Below w.heap.size w w') : OwnX f T w' B v zs := by
  refine ⟨h.1, ?_⟩
  rcases h.2 with q | ⟨g, cap, cur, e, hB, hg, r⟩
  · exact .inl q
  · have hlt : g < w.heap.size := by
      rcases Nat.lt_or_ge g w.heap.size with q | q
      · exact q
      · rw [Array.getElem?_eq_none q] at hg; cases hg
    exact .inr ⟨g, cap, cur, e, hB, (hb.block g hlt).trans hg, r⟩
theorem OwnX.XS {α : Type} {f : α → Value} {T : TypeId} {w : World} {B : Nat} {v : Value} {zs : List α} (h : OwnX f T w B v zs) : XS f w v zs := by
  have h' := h
  rcases h.2 with ⟨rfl, hn⟩ | ⟨g, cap, cur, rfl, hB, hg, hnc, hcm, _⟩
  · exact ⟨none, 0, 0, rfl, hn, Nat.zero_le _, .inl rfl⟩
  · have hlt : g < w.heap.size := by
      rcases Nat.lt_or_ge g w.heap.size with q | q
      · exact q
      · rw [Array.getElem?_eq_none q] at hg; cases hg
    refine ⟨_, _, _, rfl, rfl, Nat.le_trans hnc hcm, .inr ⟨g, 0, rfl, hlt, fun i x hi => ?_⟩⟩
    have := World.ownsRow.cellAt h' i (by have := (List.getElem?_eq_some_iff.1 hi).1; omega)
    rw [Nat.zero_add, this, List.getElem?_map, hi]; rfl
theorem at_of_lt {α : Type} {zs : List α} {i : Nat} (h : i < zs.length) : ∃ x, zs[i]? = some x := ⟨_, List.getElem?_eq_getElem h⟩

/-- A copy, k elements of it done. -/
def cpx {α : Type} (f : α → Value) (z : Value) (zs : List α) (k : Nat) : List Value := (zs.take k).map f ++ List.replicate (zs.length - k) z
theorem cpx_zero {α : Type} (f : α → Value) (z : Value) (hz : z.cells = #[z]) (zs : List α) : (madeCells z.cells (zs.length * 1)).toList = cpx f z zs 0 := by
  rw [Nat.mul_one, hz, toList_madeCells_one]
  simp [cpx]
theorem cpx_full {α : Type} (f : α → Value) (z : Value) (zs : List α) : cpx f z zs zs.length = zs.map f := by simp [cpx]
theorem cpx_get {α : Type} {f : α → Value} {z : Value} {zs : List α} {k : Nat} (h : k < zs.length) : (cpx f z zs k)[k]? = some z := by
  unfold cpx
  rw [List.getElem?_append_right (by simp; omega)]
  simp [List.getElem?_replicate]; omega
theorem cpx_set {α : Type} {f : α → Value} {z : Value} {zs : List α} {k : Nat} {x : α} (h : zs[k]? = some x) : (cpx f z zs k).set k (f x) = cpx f z zs (k + 1) := by
  obtain ⟨hk, hx⟩ := List.getElem?_eq_some_iff.1 h
  unfold cpx
  have hl : ((zs.take k).map f).length = k := by simp; omega
  rw [List.set_append_right _ _ (by omega), hl, Nat.sub_self]
  have e : zs.length - k = (zs.length - (k + 1)) + 1 := by omega
  rw [e, List.replicate_succ, List.set_cons_zero, List.take_succ_eq_append_getElem hk, List.map_append, hx]
  simp

theorem below_dn4 {B : Nat} {a w : World} (h : Below B a w) (n : Nat) : Below B a (w.drewN n) := h.trans ⟨rfl, rfl, rfl, Nat.le_refl _, fun _ _ => rfl⟩
abbrev fI : Int → Value := Value.int .i64
theorem infoI : (Tryz.prog.info? 2).map (fun i => (i.zero, i.size, i.bytes)) = some (some (.int .i64 0), 1, 8) := by kernel_rfl



end Go.Proofs.YtcaceplnlfmejaaGreatDoor
