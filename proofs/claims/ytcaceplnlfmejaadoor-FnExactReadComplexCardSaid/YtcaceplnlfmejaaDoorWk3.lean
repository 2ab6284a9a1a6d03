/- Slices of numbers that are only read, the predicates on all of a list, and the comparison of two doubles. -/
import Derived.Test.YtcaceplnlfmejaaDoorWk1
import Derived.Below
namespace Go.Proofs.YtcaceplnlfmejaaDoor
open Fl Go.RowKit

/-- The slice v reads as the numbers zs. -/
def FS (w : World) (v : Value) (zs : List Nat) : Prop :=
  ∃ (a : Option Addr) (len cap : Nat), v = .slice a len cap ∧ zs.length = len ∧ len ≤ maxLen ∧
    (len = 0 ∨ ∃ b off, a = some ⟨b, off, none⟩ ∧ b < w.heap.size ∧ ∀ i, i < len → w.cell? ⟨b, off + i, none⟩ = some (.float .f32 (zs.getD i 0)))

theorem FS.drewN {w : World} {v : Value} {zs : List Nat} (h : FS w v zs) (n : Nat) : FS (w.drewN n) v zs := h

theorem FS.later {w w' : World} {v : Value} {zs : List Nat} (h : FS w v zs) (hb : Below w.heap.size w w') : FS w' v zs := by
  obtain ⟨a, len, cap, rfl, hl, hm, h⟩ := h
  refine ⟨a, len, cap, rfl, hl, hm, ?_⟩
  rcases h with h | ⟨b, off, rfl, hlt, hc⟩
  · exact .inl h
  · exact .inr ⟨b, off, rfl, Nat.lt_of_lt_of_le hlt hb.size, fun i hi => (hb.cell (p := ⟨b, off + i, none⟩) hlt).trans (hc i hi)⟩

/-- The call returns v; of what was there nothing has turned. -/
def RetB (v : Value) (w : World) (e : Ending) (w' : World) : Prop := e = .returned v ∧ Below w.heap.size w w'
theorem RetB.mk' {v v' : Value} {w w' : World} (h : v = v') (hw : Below w.heap.size w w') : RetB v' w (.returned v) w' := ⟨by rw [h], hw⟩
theorem below_dn {B : Nat} {a w : World} (h : Below B a w) (n : Nat) : Below B a (w.drewN n) := h.trans ⟨rfl, rfl, rfl, Nat.le_refl _, fun _ _ => rfl⟩
theorem Ret.toB {v : Value} {w : World} {e : Ending} {w' : World} (h : Ret v w e w') : RetB v w e w' := by
  obtain ⟨rfl, n, rfl⟩ := h
  exact ⟨rfl, below_dn (Below.refl _ _) n⟩

theorem Ret.soft {v : Value} {w : World} {n : Nat} {e : Ending} {w' : World} (h : Ret v (w.drewN n) e w') : ∃ u, e = .returned u ∧ u = v ∧ ∃ m, w' = w.drewN m := by
  obtain ⟨rfl, m, rfl⟩ := h
  exact ⟨v, rfl, rfl, n + m, World.drewN_drewN _ _ _⟩
theorem quo_same (x a : Nat) (w w' : World) : ((FloatKind.f64.format.order (fa .quo .f64 x a w) 0 == some .gt) == (FloatKind.f64.format.order (fa .quo .f64 x a w') 0 == some .gt)) = true := by
  rw [order_cls, order_cls .f64 (fa .quo .f64 x a w'), cls_fa, cls_fa, beq_self_eq_true]

theorem sameFloat_true (a b : Nat) (h : cls .f64 a = cls .f64 b) (w : World) : Calls Tryd.prog 48 #[.float .f64 a, .float .f64 b] w (Ret (.bool true) w) := by
  cases na : nan FloatKind.f64.format a
  · have e : a = b := by
      rw [cls_some na] at h
      unfold cls at h
      split at h
      · cases h
      · exact Option.some.inj h
    subst e
    have h' : (FloatKind.f64.format.order a a != some .eq) = false := by rw [ne_self, na]
    have h2 : (FloatKind.f64.format.order a a == some .eq) = true := by rw [Fl.eq_self, na]; rfl
    clear h na
    cases hz : (FloatKind.f64.format.order a 0 == some .eq)
    · go_enter Tryd.func48, Tryd.ntmps48
      go_wp2
      go_ret
      exact .mk' 0 rfl rfl
    · go_enter Tryd.func48, Tryd.ntmps48
      go_wp2
      go_ret
      exact .mk' _ (bool_congr (quo_same _ _ _ _)) rfl
  · have nb : nan FloatKind.f64.format b = true := by
      rw [cls_none na] at h
      unfold cls at h
      split at h
      · assumption
      · cases h
    have h1 : (FloatKind.f64.format.order a a != some .eq) = true := by rw [ne_self, na]
    have h2 : (FloatKind.f64.format.order b b != some .eq) = true := by rw [ne_self, nb]
    clear h na nb
    go_enter Tryd.func48, Tryd.ntmps48
    go_wp2
    go_ret
    exact .mk' 0 rfl rfl


theorem getD_lt {zs : List Nat} {i : Nat} (h : i < zs.length) : zs.getD i 0 = zs[i] := by simp [List.getD, h]
theorem any_false {p : Nat → Bool} {zs : List Nat} (h : ∀ i, i < zs.length → p (zs.getD i 0) = false) : zs.any p = false := by
  rw [List.any_eq_false]
  intro x hx
  obtain ⟨i, hi, rfl⟩ := List.mem_iff_getElem.1 hx
  have := h i hi
  rw [getD_lt hi] at this
  simp [this]
theorem any_true {p : Nat → Bool} {zs : List Nat} {j : Nat} (hj : j < zs.length) (h : p (zs.getD j 0) = true) : zs.any p = true := by
  rw [List.any_eq_true]
  rw [getD_lt hj] at h
  exact ⟨_, List.getElem_mem hj, h⟩
theorem not_all_false {p : Nat → Bool} {zs : List Nat} (h : ¬ ∀ i, i < zs.length → p (zs.getD i 0) = false) : ∃ j, j < zs.length ∧ p (zs.getD j 0) = true := by
  refine Classical.byContradiction fun q => h fun i hi => ?_
  cases hb : p (zs.getD i 0)
  · rfl
  · exact absurd ⟨i, hi, hb⟩ q

/-- Not finite; not finite, or not greater than nought; not finite, or less than nought. -/
def notFin (b : Nat) : Bool := !finb FloatKind.f32.format b
def notPos (b : Nat) : Bool := !finb FloatKind.f32.format b || (FloatKind.f32.format.order b 0 == some .lt || FloatKind.f32.format.order b 0 == some .eq)
def notLeast (b : Nat) : Bool := !(finb FloatKind.f32.format b && (FloatKind.f32.format.order b 0 == some .gt || FloatKind.f32.format.order b 0 == some .eq))

















end Go.Proofs.YtcaceplnlfmejaaDoor
