/- Angles of points: the walks of the reference, of the program and of the law. -/
import Derived.Test.YtcaceplnlfmejaaGreatDoorWr3
namespace Go.Proofs.YtcaceplnlfmejaaGreatDoor
open Fl Go.RowKit

/-- The smaller side over the greater one. -/
def angO (y x : Nat) : Bool := FloatKind.f64.format.order (absd y) (absd x) == some .gt
def angT (y x : Nat) : Nat := if angO y x then opw .quo (absd x) (absd y) else opw .quo (absd y) (absd x)
theorem angT_or {y x : Nat} (hy : fin Ieee.double y) (hx : fin Ieee.double x) (h0 : ¬ (N Ieee.double x = 0 ∧ N Ieee.double y = 0)) :
    In (some (angT y x)) 0 4 ∧ (((FloatKind.f64.format.order (absd y) (absd x) == some .gt) = true ∧ ∀ w, fa .quo .f64 (absd x) (absd y) w = angT y x) ∨
      ((FloatKind.f64.format.order (absd y) (absd x) == some .gt) = false ∧ ∀ w, fa .quo .f64 (absd y) (absd x) w = angT y x)) := by
  have fy := fin_absd.2 hy
  have fx := fin_absd.2 hx
  have ny := N_absd y
  have nx := N_absd x
  cases ho : (FloatKind.f64.format.order (absd y) (absd x) == some .gt)
  · have hle : N Ieee.double (absd y) ≤ N Ieee.double (absd x) := by
      rw [gt_N fy fx] at ho; simpa using ho
    obtain ⟨q1, q2⟩ := quo_unit fy fx (by omega) hle (by omega)
    have e : angT y x = opw .quo (absd y) (absd x) := by unfold angT angO; rw [ho]; rfl
    rw [e]; exact ⟨q2, .inr ⟨rfl, q1⟩⟩
  · have hlt : N Ieee.double (absd x) < N Ieee.double (absd y) := by
      rw [gt_N fy fx] at ho; simpa using ho
    obtain ⟨q1, q2⟩ := quo_unit fx fy (by omega) (by omega) (by omega)
    have e : angT y x = opw .quo (absd x) (absd y) := by unfold angT angO; rw [ho]; rfl
    rw [e]; exact ⟨q2, .inl ⟨rfl, q1⟩⟩

theorem t_round {t : Nat} (h : In (some t) 0 4) : ∃ a b q c d, (∀ w, fa .mul .f64 t t w = a) ∧ (∀ w, fa .add .f64 0x3FF0000000000000 a w = b) ∧ (∀ w, sq b w = q) ∧ (∀ w, fa .add .f64 0x3FF0000000000000 q w = c) ∧ (∀ w, fa .quo .f64 t c w = d) ∧ d = t3 t :=
  ⟨_, _, _, _, _, (tt_in h).1, (t1_in h).1, (t2s_in h).1, (t2_in h).1, (t3_in h).1, rfl⟩
theorem pA_round {u : Nat} (hu : In (some u) 0 4) (j : Nat) (hj : j < 8) : ∃ r m p' k k', k = kA j ∧ floatOfInt .f64 (kAI j) = k ∧ (∀ w, fa .quo .f64 0x3FF0000000000000 k w = r) ∧ (∀ w, fa .mul .f64 u (pA u j) w = m) ∧ (∀ w, fa .sub .f64 r m w = p') ∧ p' = pA u (j + 1) ∧ (∀ w, fa .sub .f64 k 0x4000000000000000 w = k') ∧ k' = kA (j + 1) ∧
    (FloatKind.f64.format.order k 0x3FF0000000000000 == some .gt || FloatKind.f64.format.order k 0x3FF0000000000000 == some .eq) = true :=
  ⟨_, _, _, _, _, rfl, kA_int j hj, (rA_in j hj).1, (pA_up hu (by omega) (pA_in hu j (by omega))).1, pA_step hj hu, rfl, fa_some (kA_sub j hj), rfl, kA_more j hj⟩

/-- The angle. -/
def angW (y x : Nat) : Nat := an3 (FloatKind.f64.format.order y 0 == some .lt) (an2 (FloatKind.f64.format.order x 0 == some .lt) (an1 (angO y x) (anC (tW (angT y x) 3))))

theorem zero_tests {y x : Nat} (hy : fin Ieee.double y) (hx : fin Ieee.double x) (h0 : ¬ (N Ieee.double x = 0 ∧ N Ieee.double y = 0)) :
    (FloatKind.f64.format.order x 0 == some .eq) = false ∨ ((FloatKind.f64.format.order x 0 == some .eq) = true ∧ (FloatKind.f64.format.order y 0 == some .eq) = false) := by
  rw [eq_N hx zeroF, eq_N hy zeroF, zeroN]
  by_cases h : N Ieee.double x = 0
  · exact .inr ⟨decide_eq_true h, decide_eq_false fun h' => h0 ⟨h, h'⟩⟩
  · exact .inl (decide_eq_false h)


end Go.Proofs.YtcaceplnlfmejaaGreatDoor
