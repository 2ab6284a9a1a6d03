/- Lists of numbers: copies, the comparison of two lists, sums; the laws on sums of numbers. -/
import Derived.Test.YtcaceplnlfmejaaGreatDoorWk3
import Derived.Test.YtcaceplnlfmejaaGreatDoorSft
namespace Go.Proofs.YtcaceplnlfmejaaGreatDoor
open Fl Go.RowKit

theorem infoF : (Tryz.prog.info? 28).map (fun i => (i.zero, i.size, i.bytes)) = some (some (.float .f32 0), 1, 4) := by kernel_rfl
/-- The call's own slice of numbers. -/
def OwnF (w : World) (B : Nat) (v : Value) (zs : List Nat) : Prop := w.ownsRow B 28 1 v zs.length (zs.map (Value.float .f32))

theorem OwnF.later {w w' : World} {B : Nat} {v : Value} {zs : List Nat} (h : OwnF w B v zs) (hb : Below w.heap.size w w') : OwnF w' B v zs := by
  refine ⟨h.1, ?_⟩
  rcases h.2 with q | ⟨g, cap, cur, e, hB, hg, r⟩
  · exact .inl q
  · have hlt : g < w.heap.size := by
      rcases Nat.lt_or_ge g w.heap.size with q | q
      · exact q
      · rw [Array.getElem?_eq_none q] at hg; cases hg
    exact .inr ⟨g, cap, cur, e, hB, (hb.block g hlt).trans hg, r⟩

theorem OwnF.FS {w : World} {B : Nat} {v : Value} {zs : List Nat} (h : OwnF w B v zs) : FS w v zs := by
  have h' := h
  rcases h.2 with ⟨rfl, hn⟩ | ⟨g, cap, cur, rfl, hB, hg, hnc, hcm, _⟩
  · exact ⟨none, 0, 0, rfl, hn, Nat.zero_le _, .inl rfl⟩
  · have hlt : g < w.heap.size := by
      rcases Nat.lt_or_ge g w.heap.size with q | q
      · exact q
      · rw [Array.getElem?_eq_none q] at hg; cases hg
    refine ⟨_, _, _, rfl, rfl, Nat.le_trans hnc hcm, .inr ⟨g, 0, rfl, hlt, fun i hi => ?_⟩⟩
    have := World.ownsRow.cellAt h' i (by omega)
    rw [Nat.zero_add, this, List.getElem?_map, List.getElem?_eq_getElem hi, getD_lt hi]; rfl

/-- A copy, k elements of it done. -/
def cpl (zs : List Nat) (k : Nat) : List Value := (zs.take k).map (Value.float .f32) ++ List.replicate (zs.length - k) (Value.float .f32 0)
theorem cpl_zero (zs : List Nat) : (madeCells (Value.float .f32 0).cells (zs.length * 1)).toList = cpl zs 0 := by
  rw [Nat.mul_one]
  have : (Value.float .f32 0).cells = #[Value.float .f32 0] := rfl
  rw [this, toList_madeCells_one]
  simp [cpl]
theorem cpl_full (zs : List Nat) : cpl zs zs.length = zs.map (Value.float .f32) := by simp [cpl]
theorem cpl_get {zs : List Nat} {k : Nat} (h : k < zs.length) : (cpl zs k)[k]? = some (Value.float .f32 0) := by
  unfold cpl
  rw [List.getElem?_append_right (by simp; omega)]
  simp [List.getElem?_replicate]; omega
theorem cpl_set {zs : List Nat} {k : Nat} (h : k < zs.length) : (cpl zs k).set k (Value.float .f32 (zs.getD k 0)) = cpl zs (k + 1) := by
  unfold cpl
  have hl : ((zs.take k).map (Value.float .f32)).length = k := by simp; omega
  rw [List.set_append_right _ _ (by omega), hl, Nat.sub_self]
  have e : zs.length - k = (zs.length - (k + 1)) + 1 := by omega
  rw [e, List.replicate_succ, List.set_cons_zero, List.take_succ_eq_append_getElem h, List.map_append, getD_lt h]
  simp

/-- What is known of a slice that is read: where each element lies. -/
theorem FS.at {w : World} {a : Option Addr} {len cap : Nat} {zs : List Nat} (h : FS w (.slice a len cap) zs) : len = zs.length ∧ len ≤ maxLen ∧
    Hid (∀ i, i < len → ∃ b off, a = some ⟨b, off, none⟩ ∧ b < w.heap.size ∧ w.cell? ⟨b, off + i, none⟩ = some (.float .f32 (zs.getD i 0))) := by
  obtain ⟨a', len', cap', ev, hl, hm, h⟩ := h
  simp only [Value.slice.injEq] at ev
  obtain ⟨rfl, rfl, rfl⟩ := ev
  refine ⟨hl.symm, hm, Lib.hid fun i hi => ?_⟩
  rcases h with h | ⟨b, off, rfl, hb, hc⟩
  · omega
  · exact ⟨b, off, rfl, hb, hc i hi⟩
theorem FS.shape {w : World} {v : Value} {zs : List Nat} (h : FS w v zs) : ∃ a len cap, v = .slice a len cap := by
  obtain ⟨a, len, cap, e, _⟩ := h; exact ⟨a, len, cap, e⟩



/-- What is known on the way of a law: of what was there when it began nothing has turned, and some slices read as some numbers. -/
def Live (w0 w : World) (l : List (Value × List Nat)) : Prop := Below w0.heap.size w0 w ∧ ∀ v zs, (v, zs) ∈ l → FS w v zs
theorem Live.start {w : World} : Live w w [] := ⟨Below.refl _ _, fun _ _ h => by cases h⟩
theorem Live.add {w0 w : World} {l : List (Value × List Nat)} (h : Live w0 w l) {v : Value} {zs : List Nat} (hf : FS w v zs) : Live w0 w ((v, zs) :: l) := by
  refine ⟨h.1, fun v' zs' hm => ?_⟩
  cases hm with
  | head => exact hf
  | tail _ hm => exact h.2 _ _ hm
theorem Live.step {w0 w w' : World} {l : List (Value × List Nat)} (h : Live w0 w l) (hb : Below w.heap.size w w') : Live w0 w' l :=
  ⟨h.1.trans (hb.mono h.1.size), fun v zs hm => (h.2 v zs hm).later hb⟩
theorem Live.drawn {w0 w w' : World} {l : List (Value × List Nat)} (h : Live w0 w l) {n : Nat} (hw : w' = w.drewN n) : Live w0 w' l := by
  subst hw; exact h.step (below_dn (Below.refl _ _) n)

/-- The class of the sum of the first k numbers. -/
def sumC (zs : List Nat) : Nat → Option Nat
  | 0 => some 0
  | k + 1 => cop .add .f32 (sumC zs k) (cls .f32 (zs.getD k 0))
/-- The class of the sum of the first k products. -/
def dotC (zs ys : List Nat) : Nat → Option Nat
  | 0 => some 0
  | k + 1 => cop .add .f32 (dotC zs ys k) (cop .mul .f32 (cls .f32 (zs.getD k 0)) (cls .f32 (ys.getD k 0)))
/-- A number of a class is returned; the memory is as it was. -/
def RetC (k : FloatKind) (c : Option Nat) (w : World) (e : Ending) (w' : World) : Prop := ∃ r n, e = .returned (.float k r) ∧ r < 2 ^ k.format.width ∧ cls k r = c ∧ w' = w.drewN n
/-- Likewise, and true. -/
def RetC2 (k : FloatKind) (c : Option Nat) (w : World) (e : Ending) (w' : World) : Prop := ∃ r n, e = .returned (.tuple #[.float k r, .bool true]) ∧ r < 2 ^ k.format.width ∧ cls k r = c ∧ w' = w.drewN n
theorem RetC.mk' {k : FloatKind} {c : Option Nat} {w w' : World} {r n : Nat} (hr : r < 2 ^ k.format.width) (h : cls k r = c) (hw : w' = w.drewN n) : RetC k c w (.returned (.float k r)) w' := ⟨r, n, rfl, hr, h, hw⟩
theorem RetC2.mk' {k : FloatKind} {c : Option Nat} {w w' : World} {r n : Nat} (hr : r < 2 ^ k.format.width) (h : cls k r = c) (hw : w' = w.drewN n) : RetC2 k c w (.returned (.tuple #[.float k r, .bool true])) w' := ⟨r, n, rfl, hr, h, hw⟩
theorem cls_zero (k : FloatKind) : cls k 0 = some 0 := by cases k <;> decide
theorem zero_lt (k : FloatKind) : 0 < 2 ^ k.format.width := Nat.two_pow_pos _


end Go.Proofs.YtcaceplnlfmejaaGreatDoor
