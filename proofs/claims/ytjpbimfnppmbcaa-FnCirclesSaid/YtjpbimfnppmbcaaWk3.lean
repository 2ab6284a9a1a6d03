/- Slices of numbers that are only read, the predicates on all of a list, and the comparison of two doubles. -/
import Derived.Test.YtjpbimfnppmbcaaWk1
import Derived.Below
namespace Go.Proofs.Ytjpbimfnppmbcaa
open Fl Go.RowKit

/-- The slice v reads as the numbers zs. -/
def FS (w : World) (v : Value) (zs : List Nat) : Prop :=
  ∃ (a : Option Addr) (len cap : Nat), v = .slice a len cap ∧ zs.length = len ∧ len ≤ maxLen ∧
    (len = 0 ∨ ∃ b off, a = some ⟨b, off, none⟩ ∧ b < w.heap.size ∧ ∀ i, i < len → w.cell? ⟨b, off + i, none⟩ = some (.float .f32 (zs.getD i 0)))

theorem FS.drewN {w : World} {v : Value} {zs : List Nat} (h : FS w v zs) (n : Nat) : FS (w.drewN n) v zs := h

theorem FS.later {w w' : World} {v : Value} {zs : List Nat} (h : FS w v zs) (hb : Below w.heap.size w w') : FS w' v zs := by
  obtain ⟨a, len, cap, rfl, hl, hm, h⟩ := h
  refine ⟨a, len, cap, rfl, hl, hm, ?_⟩
  rcases h with h | ⟨b, off, rfl, hlt, hc⟩
  · exact .inl h
  · exact .inr ⟨b, off, rfl, Nat.lt_of_lt_of_le hlt hb.size, fun i hi => (hb.cell (p := ⟨b, off + i, none⟩) hlt).trans (hc i hi)⟩

/-- The call returns v; of what was there nothing has turned. -/
def RetB (v : Value) (w : World) (e : Ending) (w' : World) : Prop := e = .returned v ∧ Below w.heap.size w w'
theorem RetB.mk' {v v' : Value} {w w' : World} (h : v = v') (hw : Below w.heap.size w w') : RetB v' w (.returned v) w' := ⟨by rw [h], hw⟩
theorem below_dn {B : Nat} {a w : World} (h : Below B a w) (n : Nat) : Below B a (w.drewN n) := h.trans ⟨rfl, rfl, rfl, Nat.le_refl _, fun _ _ => rfl⟩
theorem Ret.toB {v : Value} {w : World} {e : Ending} {w' : World} (h : Ret v w e w') : RetB v w e w' := by
  obtain ⟨rfl, n, rfl⟩ := h
  exact ⟨rfl, below_dn (Below.refl _ _) n⟩

theorem Ret.soft {v : Value} {w : World} {n : Nat} {e : Ending} {w' : World} (h : Ret v (w.drewN n) e w') : ∃ u, e = .returned u ∧ u = v ∧ ∃ m, w' = w.drewN m := by
  obtain ⟨rfl, m, rfl⟩ := h
  exact ⟨v, rfl, rfl, n + m, World.drewN_drewN _ _ _⟩
theorem quo_same (x a : Nat) (w w' : World) : ((FloatKind.f64.format.order (fa .quo .f64 x a w) 0 == some .gt) == (FloatKind.f64.format.order (fa .quo .f64 x a w') 0 == some .gt)) = true := by
  rw [order_cls, order_cls .f64 (fa .quo .f64 x a w'), cls_fa, cls_fa, beq_self_eq_true]

theorem sameFloat_true (a b : Nat) (h : cls .f64 a = cls .f64 b) (w : World) : Calls Try.prog 15 #[.float .f64 a, .float .f64 b] w (Ret (.bool true) w) := by
  cases na : nan FloatKind.f64.format a
  · have e : a = b := by
      rw [cls_some na] at h
      unfold cls at h
      split at h
      · cases h
      · exact Option.some.inj h
    subst e
    have h' : (FloatKind.f64.format.order a a != some .eq) = false := by rw [ne_self, na]
    have h2 : (FloatKind.f64.format.order a a == some .eq) = true := by rw [Fl.eq_self, na]; rfl
    clear h na
    cases hz : (FloatKind.f64.format.order a 0 == some .eq)
    · go_enter Try.func15, Try.ntmps15
      go_wp2
      go_ret
      exact .mk' 0 rfl rfl
    · go_enter Try.func15, Try.ntmps15
      go_wp2
      go_ret
      exact .mk' _ (bool_congr (quo_same _ _ _ _)) rfl
  · have nb : nan FloatKind.f64.format b = true := by
      rw [cls_none na] at h
      unfold cls at h
      split at h
      · assumption
      · cases h
    have h1 : (FloatKind.f64.format.order a a != some .eq) = true := by rw [ne_self, na]
    have h2 : (FloatKind.f64.format.order b b != some .eq) = true := by rw [ne_self, nb]
    clear h na nb
    go_enter Try.func15, Try.ntmps15
    go_wp2
    go_ret
    exact .mk' 0 rfl rfl


theorem getD_lt {zs : List Nat} {i : Nat} (h : i < zs.length) : zs.getD i 0 = zs[i] := by simp [List.getD, h]
theorem any_false {p : Nat → Bool} {zs : List Nat} (h : ∀ i, i < zs.length → p (zs.getD i 0) = false) : zs.any p = false := by
  rw [List.any_eq_false]
  intro x hx
  obtain ⟨i, hi, rfl⟩ := List.mem_iff_getElem.1 hx
  have := h i hi
  rw [getD_lt hi] at this
  simp [this]
theorem any_true {p : Nat → Bool} {zs : List Nat} {j : Nat} (hj : j < zs.length) (h : p (zs.getD j 0) = true) : zs.any p = true := by
  rw [List.any_eq_true]
  rw [getD_lt hj] at h
  exact ⟨_, List.getElem_mem hj, h⟩
theorem not_all_false {p : Nat → Bool} {zs : List Nat} (h : ¬ ∀ i, i < zs.length → p (zs.getD i 0) = false) : ∃ j, j < zs.length ∧ p (zs.getD j 0) = true := by
  refine Classical.byContradiction fun q => h fun i hi => ?_
  cases hb : p (zs.getD i 0)
  · rfl
  · exact absurd ⟨i, hi, hb⟩ q

/-- Not finite; not finite, or not greater than nought; not finite, or less than nought. -/
def notFin (b : Nat) : Bool := !finb FloatKind.f32.format b
def notPos (b : Nat) : Bool := !finb FloatKind.f32.format b || (FloatKind.f32.format.order b 0 == some .lt || FloatKind.f32.format.order b 0 == some .eq)
def notLeast (b : Nat) : Bool := !(finb FloatKind.f32.format b && (FloatKind.f32.format.order b 0 == some .gt || FloatKind.f32.format.order b 0 == some .eq))

theorem cl_areFinite (b : Nat) (w : World) : Calls Try.prog 73 #[.float .f32 b] w (Ret (.bool (notFin b)) w) := by
  go_enter Try.func73, Try.ntmps73
  go_wp2_with (go_at_call 55; refine (impl_IsFinite _ _).mono ?_; rintro e w' ⟨rfl, n, rfl⟩)
  go_ret
  exact .mk' _ rfl rfl

theorem idx_areFinite_none (w : World) (v : Value) (zs : List Nat) (h : FS w v zs) (hp : ∀ i, i < zs.length → notFin (zs.getD i 0) = false) :
    Calls Try.prog 86 #[v, .func (.func 73) #[] #[]] w (Ret (.int .i64 (-1)) w) := by
  obtain ⟨a, len, cap, rfl, hl, hm, h⟩ := h
  rw [hl] at hp
  clear hl
  unfold maxLen at hm
  rcases h with rfl | ⟨b, off, rfl, _, hc⟩
  · clear hp
    go_enter Try.func86, Try.ntmps86
    go_wp2
    go_loop [8] (fun i => i = .int .i64 0) (fun _ => 0)
    case atStart => rfl
    case round =>
      obtain rfl := hrel
      go_wp2
      go_ret
      exact .mk' 0 rfl rfl
  · have HP := Lib.hid hp; clear hp
    have HC := Lib.hid hc; clear hc
    go_enter Try.func86, Try.ntmps86
    go_wp2_with fail
    go_loopw [8] (fun i w1 => ∃ k n : Nat, k ≤ len ∧ i = .int .i64 k ∧ w1 = w.drewN n) (fun i _ => len - (intOf i).toNat)
    case atStart => exact ⟨0, 0, Nat.zero_le _, rfl, rfl⟩
    case round =>
      obtain ⟨k, n, hk, rfl, rfl⟩ := hrel
      by_cases hlt : k < len
      · have hck := HC.out k hlt
        have hpk := HP.out k hlt
        generalize zs.getD k 0 = z at *
        have HPK := Lib.hid hpk; clear hpk
        go_wp2_with (go_at_call 73; refine (cl_areFinite z _).mono ?_; rintro e w' ⟨rfl, n', rfl⟩; rw [HPK.out])
        go_roundw
        case rel => exact ⟨k + 1, _, by omega, by go_num, rfl⟩
        case measure => simp [intOf]; omega
      · go_wp2
        go_ret
        exact .mk' _ rfl rfl

theorem idx_areFinite_some (w : World) (v : Value) (zs : List Nat) (h : FS w v zs) (j : Nat) (hj : j < zs.length) (hp : notFin (zs.getD j 0) = true) :
    Calls Try.prog 86 #[v, .func (.func 73) #[] #[]] w (fun e w' => ∃ i : Nat, (i : Int) ≤ 9223372036854775807 ∧ Ret (.int .i64 i) w e w') := by
  obtain ⟨a, len, cap, rfl, hl, hm, h⟩ := h
  rw [hl] at hj
  clear hl
  unfold maxLen at hm
  rcases h with rfl | ⟨b, off, rfl, _, hc⟩
  · omega
  · have HP := Lib.hid hp; clear hp
    have HC := Lib.hid hc; clear hc
    go_enter Try.func86, Try.ntmps86
    go_wp2_with fail
    go_loopw [8] (fun i w1 => ∃ k n : Nat, k ≤ j ∧ i = .int .i64 k ∧ w1 = w.drewN n) (fun i _ => len - (intOf i).toNat)
    case atStart => exact ⟨0, 0, Nat.zero_le _, rfl, rfl⟩
    case round =>
      obtain ⟨k, n, hk, rfl, rfl⟩ := hrel
      have hlt : k < len := by omega
      have hck := HC.out k hlt
      cases hpk : notFin (zs.getD k 0)
      · have hne : k < j := by
          rcases Nat.lt_or_ge k j with q | q
          · exact q
          · have : k = j := by omega
            subst this
            rw [HP.out] at hpk; cases hpk
        generalize zs.getD k 0 = z at *
        have HPK := Lib.hid hpk; clear hpk
        go_wp2_with (go_at_call 73; refine (cl_areFinite z _).mono ?_; rintro e w' ⟨rfl, n', rfl⟩; rw [HPK.out])
        go_roundw
        case rel => exact ⟨k + 1, _, by omega, by go_num, rfl⟩
        case measure => simp [intOf]; omega
      · generalize zs.getD k 0 = z at *
        have HPK := Lib.hid hpk; clear hpk
        go_wp2_with (go_at_call 73; refine (cl_areFinite z _).mono ?_; rintro e w' ⟨rfl, n', rfl⟩; rw [HPK.out])
        go_ret
        exact ⟨k, by omega, .mk' _ rfl rfl⟩

theorem has_areFinite (w : World) (v : Value) (zs : List Nat) (h : FS w v zs) :
    Calls Try.prog 72 #[v, .func (.func 73) #[] #[]] w (Ret (.bool (zs.any notFin)) w) := by
  by_cases hp : ∀ i, i < zs.length → notFin (zs.getD i 0) = false
  · have hany := Lib.hid (any_false hp)
    have HH := Lib.hid h; clear h
    have HP := Lib.hid hp; clear hp
    go_enter Try.func72, Try.ntmps72
    go_wp2_with (go_at_call 86; refine (idx_areFinite_none _ _ zs HH.out HP.out).mono ?_; rintro e w' ⟨rfl, n, rfl⟩)
    go_ret
    exact .mk' _ (bool_congr hany.out.symm) rfl
  · obtain ⟨j, hj, hpj⟩ := not_all_false hp
    have hany := Lib.hid (any_true hj hpj)
    have HH := Lib.hid h; clear h hp
    go_enter Try.func72, Try.ntmps72
    go_wp2_with (go_at_call 86; refine (idx_areFinite_some _ _ zs HH.out j hj hpj).mono ?_; rintro e w' ⟨i, hi, rfl, n, rfl⟩)
    go_ret
    exact .mk' _ (bool_congr hany.out.symm) rfl

theorem impl_areFinite (w : World) (v : Value) (zs : List Nat) (h : FS w v zs) : Calls Try.prog 48 #[v] w (Ret (.bool (!zs.any notFin)) w) := by
  have HH := Lib.hid h
  have hv : ∃ a len cap, v = .slice a len cap := by obtain ⟨a, len, cap, e, _⟩ := h; exact ⟨a, len, cap, e⟩
  clear h
  obtain ⟨a, len, cap, rfl⟩ := hv
  go_enter Try.func48, Try.ntmps48
  go_wp2_with (go_at_call 72; refine (has_areFinite _ _ zs HH.out).mono ?_; rintro e w' ⟨rfl, n, rfl⟩)
  go_ret
  exact .mk' _ rfl rfl

theorem cl_arePositive (b : Nat) (w : World) : Calls Try.prog 82 #[.float .f32 b] w (Ret (.bool (notPos b)) w) := by
  cases hf : finb FloatKind.f32.format b
  · have H := Lib.hid hf; clear hf
    go_enter Try.func82, Try.ntmps82
    go_wp2_with (go_at_call 55; refine (impl_IsFinite _ _).mono ?_; rintro e w' ⟨rfl, n, rfl⟩; rw [H.out])
    go_ret
    exact .mk' _ (bool_congr (by unfold notPos; rw [H.out]; rfl)) rfl
  · have H := Lib.hid hf; clear hf
    go_enter Try.func82, Try.ntmps82
    go_wp2_with (go_at_call 55; refine (impl_IsFinite _ _).mono ?_; rintro e w' ⟨rfl, n, rfl⟩; rw [H.out])
    go_ret
    exact .mk' _ (bool_congr (by unfold notPos; rw [H.out]; rfl)) rfl

theorem idx_arePositive_none (w : World) (v : Value) (zs : List Nat) (h : FS w v zs) (hp : ∀ i, i < zs.length → notPos (zs.getD i 0) = false) :
    Calls Try.prog 86 #[v, .func (.func 82) #[] #[]] w (Ret (.int .i64 (-1)) w) := by
  obtain ⟨a, len, cap, rfl, hl, hm, h⟩ := h
  rw [hl] at hp
  clear hl
  unfold maxLen at hm
  rcases h with rfl | ⟨b, off, rfl, _, hc⟩
  · clear hp
    go_enter Try.func86, Try.ntmps86
    go_wp2
    go_loop [8] (fun i => i = .int .i64 0) (fun _ => 0)
    case atStart => rfl
    case round =>
      obtain rfl := hrel
      go_wp2
      go_ret
      exact .mk' 0 rfl rfl
  · have HP := Lib.hid hp; clear hp
    have HC := Lib.hid hc; clear hc
    go_enter Try.func86, Try.ntmps86
    go_wp2_with fail
    go_loopw [8] (fun i w1 => ∃ k n : Nat, k ≤ len ∧ i = .int .i64 k ∧ w1 = w.drewN n) (fun i _ => len - (intOf i).toNat)
    case atStart => exact ⟨0, 0, Nat.zero_le _, rfl, rfl⟩
    case round =>
      obtain ⟨k, n, hk, rfl, rfl⟩ := hrel
      by_cases hlt : k < len
      · have hck := HC.out k hlt
        have hpk := HP.out k hlt
        generalize zs.getD k 0 = z at *
        have HPK := Lib.hid hpk; clear hpk
        go_wp2_with (go_at_call 82; refine (cl_arePositive z _).mono ?_; rintro e w' ⟨rfl, n', rfl⟩; rw [HPK.out])
        go_roundw
        case rel => exact ⟨k + 1, _, by omega, by go_num, rfl⟩
        case measure => simp [intOf]; omega
      · go_wp2
        go_ret
        exact .mk' _ rfl rfl

theorem idx_arePositive_some (w : World) (v : Value) (zs : List Nat) (h : FS w v zs) (j : Nat) (hj : j < zs.length) (hp : notPos (zs.getD j 0) = true) :
    Calls Try.prog 86 #[v, .func (.func 82) #[] #[]] w (fun e w' => ∃ i : Nat, (i : Int) ≤ 9223372036854775807 ∧ Ret (.int .i64 i) w e w') := by
  obtain ⟨a, len, cap, rfl, hl, hm, h⟩ := h
  rw [hl] at hj
  clear hl
  unfold maxLen at hm
  rcases h with rfl | ⟨b, off, rfl, _, hc⟩
  · omega
  · have HP := Lib.hid hp; clear hp
    have HC := Lib.hid hc; clear hc
    go_enter Try.func86, Try.ntmps86
    go_wp2_with fail
    go_loopw [8] (fun i w1 => ∃ k n : Nat, k ≤ j ∧ i = .int .i64 k ∧ w1 = w.drewN n) (fun i _ => len - (intOf i).toNat)
    case atStart => exact ⟨0, 0, Nat.zero_le _, rfl, rfl⟩
    case round =>
      obtain ⟨k, n, hk, rfl, rfl⟩ := hrel
      have hlt : k < len := by omega
      have hck := HC.out k hlt
      cases hpk : notPos (zs.getD k 0)
      · have hne : k < j := by
          rcases Nat.lt_or_ge k j with q | q
          · exact q
          · have : k = j := by omega
            subst this
            rw [HP.out] at hpk; cases hpk
        generalize zs.getD k 0 = z at *
        have HPK := Lib.hid hpk; clear hpk
        go_wp2_with (go_at_call 82; refine (cl_arePositive z _).mono ?_; rintro e w' ⟨rfl, n', rfl⟩; rw [HPK.out])
        go_roundw
        case rel => exact ⟨k + 1, _, by omega, by go_num, rfl⟩
        case measure => simp [intOf]; omega
      · generalize zs.getD k 0 = z at *
        have HPK := Lib.hid hpk; clear hpk
        go_wp2_with (go_at_call 82; refine (cl_arePositive z _).mono ?_; rintro e w' ⟨rfl, n', rfl⟩; rw [HPK.out])
        go_ret
        exact ⟨k, by omega, .mk' _ rfl rfl⟩

theorem has_arePositive (w : World) (v : Value) (zs : List Nat) (h : FS w v zs) :
    Calls Try.prog 72 #[v, .func (.func 82) #[] #[]] w (Ret (.bool (zs.any notPos)) w) := by
  by_cases hp : ∀ i, i < zs.length → notPos (zs.getD i 0) = false
  · have hany := Lib.hid (any_false hp)
    have HH := Lib.hid h; clear h
    have HP := Lib.hid hp; clear hp
    go_enter Try.func72, Try.ntmps72
    go_wp2_with (go_at_call 86; refine (idx_arePositive_none _ _ zs HH.out HP.out).mono ?_; rintro e w' ⟨rfl, n, rfl⟩)
    go_ret
    exact .mk' _ (bool_congr hany.out.symm) rfl
  · obtain ⟨j, hj, hpj⟩ := not_all_false hp
    have hany := Lib.hid (any_true hj hpj)
    have HH := Lib.hid h; clear h hp
    go_enter Try.func72, Try.ntmps72
    go_wp2_with (go_at_call 86; refine (idx_arePositive_some _ _ zs HH.out j hj hpj).mono ?_; rintro e w' ⟨i, hi, rfl, n, rfl⟩)
    go_ret
    exact .mk' _ (bool_congr hany.out.symm) rfl

theorem impl_arePositive (w : World) (v : Value) (zs : List Nat) (h : FS w v zs) : Calls Try.prog 64 #[v] w (Ret (.bool (!zs.any notPos)) w) := by
  have HH := Lib.hid h
  have hv : ∃ a len cap, v = .slice a len cap := by obtain ⟨a, len, cap, e, _⟩ := h; exact ⟨a, len, cap, e⟩
  clear h
  obtain ⟨a, len, cap, rfl⟩ := hv
  go_enter Try.func64, Try.ntmps64
  go_wp2_with (go_at_call 72; refine (has_arePositive _ _ zs HH.out).mono ?_; rintro e w' ⟨rfl, n, rfl⟩)
  go_ret
  exact .mk' _ rfl rfl







end Go.Proofs.Ytjpbimfnppmbcaa
